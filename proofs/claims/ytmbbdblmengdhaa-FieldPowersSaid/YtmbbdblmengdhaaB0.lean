/- A region that draws its order: whatever order is drawn, one walk in the text's order serves, where the operations ahead only compute, read the call's own blocks or call what leaves all as it was; then come new variables; then what waits for all of them. -/
import Derived.Test.YtmbbdblmengdhaaA0
import Derived.Orders
set_option linter.unusedSimpArgs false
set_option linter.unusedVariables false
namespace Go.Proofs.Ytmbbdblmengdhaa
open Go.RowKit

/-- What an operation's run gives in world w: the value v; nothing that was there has turned. -/
def Gives (v : Value) (w : World) : Result Next → Prop
  | .ok (.value u) w' => u = v ∧ Below w.heap.size w w'
  | .ok (.enter f args) w' => Calls Try.prog f args w' fun e w'' => e = .returned v ∧ Below w.heap.size w w''
  | _ => False

def Yld (ops : Array Oper) (o : Oper) (A : Act) (w : World) (v : Value) : Prop :=
  (Region.wanted o (yielded ops A.tmps) = true ∧ Gives v w ((execOp A.eval o).run Try.prog w)) ∨
  (Region.wanted o (yielded ops A.tmps) = false ∧ v = undef)

theorem Yld.wpOp {ops : Array Oper} {Q : Exit → Act → World → Prop} {i : Nat} {o : Oper} {a A : Act} {w : World} {v : Value} {K : Act → World → Prop}
    (hi : ops[i]? = some o) (hw : Region.wanted o (yielded ops a.tmps) = Region.wanted o (yielded ops A.tmps)) (he : execOp a.eval o = execOp A.eval o)
    (h : Yld ops o A w v) (hK : ∀ w', Below w.heap.size w w' → K (a.put o.dst v) w') : wpOp Try.prog ops Q i K a w := by
  unfold Go.wpOp
  simp only [hi]
  rcases h with ⟨h1, h2⟩ | ⟨h1, rfl⟩
  · rw [if_pos (by rw [hw]; exact h1)]
    refine .inl ?_
    unfold Oper.wp
    rw [he]
    generalize (execOp A.eval o).run Try.prog w = r at h2
    cases r with
    | halt x w' => exact h2.elim
    | ok n w' =>
      cases n <;> first | exact h2.elim | skip
      case value u => obtain ⟨rfl, hb⟩ := h2; exact hK _ hb
      case enter f args =>
        have h2' : Calls Try.prog f args w' fun e w'' => e = .returned v ∧ Below w.heap.size w w'' := h2
        refine h2'.mono ?_
        rintro e w'' ⟨rfl, hb⟩
        exact hK _ hb
  · rw [if_neg (by rw [hw]; simp [h1])]
    exact hK _ (Below.refl _ _)

/-- A new variable: 'alloc' or 'box'; what it holds. -/
def NewOp (o : Oper) (A : Act) (cs : Array Value) (T : TypeId) : Prop :=
  o.guard = none ∧ ((o.op = .alloc T ∧ ∀ w, (zeroValue T).run Try.prog w = .ok (.agg cs) w) ∨ (o.op = .alloc T ∧ ∃ z : Value, cs = z.cells ∧ ∀ w, (zeroValue T).run Try.prog w = .ok z w) ∨ ∃ x, o.op = .box T x ∧ A.eval x = .agg cs)

theorem NewOp.wpOp {ops : Array Oper} {Q : Exit → Act → World → Prop} {i : Nat} {o : Oper} {a A : Act} {w : World} {cs : Array Value} {T : TypeId} {K : Act → World → Prop}
    (hi : ops[i]? = some o) (he : execOp a.eval o = execOp A.eval o)
    (h : NewOp o A cs T) (hK : K (a.put o.dst (.pointer (some ⟨w.heap.size, 0, none⟩))) (w.alloc (.cells cs T))) : wpOp Try.prog ops Q i K a w := by
  obtain ⟨hg, h⟩ := h
  unfold Go.wpOp
  simp only [hi]
  rw [if_pos (by simp [Region.wanted, hg])]
  refine .inl ?_
  unfold Oper.wp
  rw [he]
  rcases h with ⟨ho, hz⟩ | ⟨ho, z, rfl, hz⟩ | ⟨x, ho, hx⟩
  · have e : (execOp A.eval o).run Try.prog w = .ok (.value (.pointer (some ⟨w.heap.size, 0, none⟩))) (w.alloc (.cells cs T)) := by
      unfold execOp
      simp only [ho, Instr.alloc, hz, newVar, newRow, Sem.run_bind, run_newObj_alloc, Result.andThen_ok, Sem.run_pure, Value.cells]
    rw [e]; exact hK
  · have e : (execOp A.eval o).run Try.prog w = .ok (.value (.pointer (some ⟨w.heap.size, 0, none⟩))) (w.alloc (.cells z.cells T)) := by
      unfold execOp
      simp only [ho, Instr.alloc, hz, newVar, newRow, Sem.run_bind, run_newObj_alloc, Result.andThen_ok, Sem.run_pure]
    rw [e]; exact hK
  · have e : (execOp A.eval o).run Try.prog w = .ok (.value (.pointer (some ⟨w.heap.size, 0, none⟩))) (w.alloc (.cells cs T)) := by
      unfold execOp
      simp only [ho, hx, Instr.box, newVar, newRow, Sem.run_bind, run_newObj_alloc, Result.andThen_ok, Sem.run_pure, Value.cells]
    rw [e]; exact hK

/-- The walk ahead: n operations that give a value each. -/
def wpD (ops : Array Oper) (W : Base) (bs : List Blk) : Nat → (List Oper → Act → Prop) → List Oper → Act → Prop
  | 0, k, os, A => k os A
  | _ + 1, _, [], _ => False
  | n + 1, k, o :: os, A => ∃ v, (∀ w, Has W w bs → Yld ops o A w v) ∧ wpD ops W bs n k os (A.put o.dst v)

/-- Then new variables, of whatever blocks; L: what they hold. -/
def wpN (A : Act) : List (Array Value × TypeId) → (List Oper → Act → List Blk → Prop) → List Oper → Act → List Blk → Prop
  | [], k, os, F, nb => k os F nb
  | _ :: _, _, [], _, _ => False
  | (cs, T) :: L, k, o :: os, F, nb => NewOp o A cs T ∧ ∀ b, wpN A L k os (F.put o.dst (.pointer (some ⟨b, 0, none⟩))) (nb ++ [(b, cs, T)])

/-! ### The check of the region's shape -/
def depB (ops : Array Oper) (i j : Nat) : Bool := ((Region.before ops).getD i 0).testBit j

def shapeOk (ops : Array Oper) (n1 n2 : Nat) : Bool :=
  (Region.noSelect ops) &&
  (List.range ops.size).all (fun i => match ops[i]? with
    | none => false
    | some o =>
      (o.after.all fun e => !Region.binds .any e || e.on < i) &&
      ((List.range ops.size).all fun j => !depB ops i j || o.after.any fun e => Region.binds .any e && (e.on == j || depB ops e.on j)) &&
      (if i < n1 + n2 then
        ((o.looksAt ops).all fun t => (List.range ops.size).all fun j => (ops[j]?.bind (·.dst)) != some t || (decide (j < n1) && depB ops i j)) &&
        ((List.range (n1 + n2)).all fun j => j == i || o.dst.isNone || (ops[j]?.bind (·.dst)) != o.dst)
      else (List.range i).all fun j => depB ops i j))

/-! ### Frames -/
def dstOf (l : List Oper) (i : Nat) : Option Tmp := (l[i]?).bind (·.dst)
/-- The frame behind the first k operations, each having given its value. -/
def accL (l : List Oper) (v : Nat → Value) (A : Act) : Nat → Act
  | 0 => A
  | k + 1 => (accL l v A k).put (dstOf l k) (v k)

theorem accL_cons (o : Oper) (os : List Oper) (v : Nat → Value) (A : Act) (k : Nat) :
    accL (o :: os) v A (k + 1) = accL os (fun i => v (i + 1)) (A.put o.dst (v 0)) k := by
  induction k with
  | zero => rfl
  | succ k ih => rw [accL, ih, accL]; rfl

theorem accL_congr {l : List Oper} {v v' : Nat → Value} {A : Act} : ∀ {k : Nat}, (∀ i, i < k → v i = v' i) → accL l v A k = accL l v' A k
  | 0, _ => rfl
  | k + 1, h => by rw [accL, accL, accL_congr (k := k) (fun i hi => h i (by omega)), h k (by omega)]

theorem accL_drop (l : List Oper) (v : Nat → Value) (A : Act) (n : Nat) : ∀ k, accL l v A (n + k) = accL (l.drop n) (fun i => v (n + i)) (accL l v A n) k
  | 0 => rfl
  | k + 1 => by
    rw [← Nat.add_assoc, accL, accL_drop l v A n k, accL]
    simp [dstOf]

theorem wpD_out {ops : Array Oper} {W : Base} {bs : List Blk} {k : List Oper → Act → Prop} : ∀ {n : Nat} {os : List Oper} {A : Act}, wpD ops W bs n k os A →
    n ≤ os.length ∧ ∃ v : Nat → Value, (∀ i o, i < n → os[i]? = some o → ∀ w, Has W w bs → Yld ops o (accL os v A i) w (v i)) ∧ k (os.drop n) (accL os v A n)
  | 0, os, A, h => ⟨Nat.zero_le _, fun _ => undef, fun _ _ hi => absurd hi (Nat.not_lt_zero _), h⟩
  | n + 1, [], A, h => h.elim
  | n + 1, o :: os, A, h => by
    obtain ⟨v0, hy, hr⟩ := h
    obtain ⟨hl, v, hv, hk⟩ := wpD_out hr
    refine ⟨by simp; exact hl, fun i => match i with | 0 => v0 | i + 1 => v i, ?_, ?_⟩
    · intro i o' hi ho w hw
      cases i with
      | zero => simp at ho; subst ho; exact hy w hw
      | succ i =>
        rw [accL_cons]
        exact hv i o' (by omega) (by simpa using ho) w hw
    · rw [accL_cons]; simpa using hk

def nbOf (L : List (Array Value × TypeId)) (β : Nat → Nat) : List Blk := (List.range L.length).map fun i => (β i, (L.getD i (#[], 0)).1, (L.getD i (#[], 0)).2)

theorem nbOf_cons (c : Array Value × TypeId) (L : List (Array Value × TypeId)) (β : Nat → Nat) : nbOf (c :: L) β = (β 0, c.1, c.2) :: nbOf L (fun i => β (i + 1)) := by
  simp [nbOf, List.range_succ_eq_map, List.map_map, Function.comp_def]

theorem wpN_out {A : Act} {k : List Oper → Act → List Blk → Prop} : ∀ {L : List (Array Value × TypeId)} {os : List Oper} {F : Act} {nb : List Blk}, wpN A L k os F nb →
    L.length ≤ os.length ∧ (∀ (i : Nat) (o : Oper) (c : Array Value × TypeId), os[i]? = some o → L[i]? = some c → NewOp o A c.1 c.2) ∧
    ∀ β : Nat → Nat, k (os.drop L.length) (accL os (fun i => .pointer (some ⟨β i, 0, none⟩)) F L.length) (nb ++ nbOf L β)
  | [], os, F, nb, h => ⟨Nat.zero_le _, fun _ _ _ _ h => by simp at h, fun β => by simpa [nbOf, accL, wpN] using h⟩
  | _ :: _, [], _, _, h => h.elim
  | (cs, T) :: L, o :: os, F, nb, h => by
    obtain ⟨hn, hr⟩ := h
    have h0 := wpN_out (hr 0)
    refine ⟨by simp; exact h0.1, ?_, ?_⟩
    · intro i o' c ho hc
      cases i with
      | zero => simp at ho hc; subst ho hc; exact hn
      | succ i => exact h0.2.1 i o' c (by simpa using ho) (by simpa using hc)
    · intro β
      have := (wpN_out (hr (β 0))).2.2 (fun i => β (i + 1))
      rw [nbOf_cons, List.length_cons, accL_cons, List.drop_succ_cons]
      simpa using this

/-- a' is a0 with the values of the operations in S. -/
structure Chr (l : List Oper) (v : Nat → Value) (S : Nat → Prop) (a0 a' : Act) : Prop where
  size : a'.tmps.size = a0.tmps.size
  defers : a'.defers = a0.defers
  val : ∀ i t, S i → dstOf l i = some t → t < a0.tmps.size → a'.tmps[t]? = some (v i)
  old : ∀ t, (∀ i, S i → dstOf l i ≠ some t) → a'.tmps[t]? = a0.tmps[t]?

theorem Chr.nil (l : List Oper) (v : Nat → Value) (a0 : Act) {S : Nat → Prop} (h : ∀ i, ¬ S i) : Chr l v S a0 a0 :=
  ⟨rfl, rfl, fun i _ hs => absurd hs (h i), fun _ _ => rfl⟩

theorem Chr.put {l : List Oper} {v : Nat → Value} {S S' : Nat → Prop} {a0 a' : Act} (h : Chr l v S a0 a') (i : Nat) (hS : ∀ j, S' j ↔ S j ∨ j = i)
    (hd : ∀ j t, S j → dstOf l j = some t → dstOf l i ≠ some t) : Chr l v S' a0 (a'.put (dstOf l i) (v i)) := by
  cases hdi : dstOf l i with
  | none =>
    refine ⟨h.size, h.defers, fun j t hj ht hl => ?_, fun t ht => h.old t fun j hj => ht j ((hS j).2 (.inl hj))⟩
    rcases (hS j).1 hj with hj | rfl
    · exact h.val j t hj ht hl
    · rw [hdi] at ht; cases ht
  | some d =>
    have hp : (a'.put (some d) (v i)).tmps = a'.tmps.setIfInBounds d (v i) := rfl
    refine ⟨by rw [hp]; simp [h.size], h.defers, fun j t hj ht hl => ?_, fun t ht => ?_⟩
    · rw [hp]
      rcases (hS j).1 hj with hj' | rfl
      · have hne : d ≠ t := fun e => hd j t hj' ht (by rw [hdi, e])
        rw [Array.getElem?_setIfInBounds_ne hne]; exact h.val j t hj' ht hl
      · rw [hdi] at ht; cases ht
        rw [Array.getElem?_setIfInBounds_self_of_lt (by rw [h.size]; exact hl)]
    · have hne : d ≠ t := fun e => ht i ((hS i).2 (.inr rfl)) (by rw [hdi, e])
      rw [hp, Array.getElem?_setIfInBounds_ne hne]
      exact h.old t fun j hj => ht j ((hS j).2 (.inl hj))

theorem Chr.ext {l : List Oper} {v : Nat → Value} {S : Nat → Prop} {a0 a1 a2 : Act} (h1 : Chr l v S a0 a1) (h2 : Chr l v S a0 a2) : a1 = a2 := by
  have ht : a1.tmps = a2.tmps := by
    apply Array.ext_getElem?
    intro t
    by_cases hw : ∃ i, S i ∧ dstOf l i = some t
    · obtain ⟨i, hi, hd⟩ := hw
      by_cases hl : t < a0.tmps.size
      · rw [h1.val i t hi hd hl, h2.val i t hi hd hl]
      · rw [Array.getElem?_eq_none (by rw [h1.size]; omega), Array.getElem?_eq_none (by rw [h2.size]; omega)]
    · have hn : ∀ i, S i → dstOf l i ≠ some t := fun i hi hd => hw ⟨i, hi, hd⟩
      rw [h1.old t hn, h2.old t hn]
  cases a1; cases a2
  simp only at ht
  have := h1.defers.trans h2.defers.symm
  simp only at this
  simp [ht, this]

/-- Two frames read alike where each writer has written in both. -/
theorem Chr.agree {l : List Oper} {v : Nat → Value} {S1 S2 : Nat → Prop} {a0 a1 a2 : Act} (h1 : Chr l v S1 a0 a1) (h2 : Chr l v S2 a0 a2) {t : Nat}
    (hw : ∀ j, (S1 j ∨ S2 j) → dstOf l j = some t → S1 j ∧ S2 j) : a1.tmps[t]? = a2.tmps[t]? := by
  by_cases hx : ∃ j, (S1 j ∨ S2 j) ∧ dstOf l j = some t
  · obtain ⟨j, hj, hd⟩ := hx
    obtain ⟨hj1, hj2⟩ := hw j hj hd
    by_cases hl : t < a0.tmps.size
    · rw [h1.val j t hj1 hd hl, h2.val j t hj2 hd hl]
    · rw [Array.getElem?_eq_none (by rw [h1.size]; omega), Array.getElem?_eq_none (by rw [h2.size]; omega)]
  · rw [h1.old t (fun j hj hd => hx ⟨j, .inl hj, hd⟩), h2.old t (fun j hj hd => hx ⟨j, .inr hj, hd⟩)]

theorem Chr.acc {l : List Oper} {v : Nat → Value} {a0 : Act} : ∀ {k : Nat}, (∀ i j t, i < j → j < k → dstOf l i = some t → dstOf l j ≠ some t) → Chr l v (· < k) a0 (accL l v a0 k)
  | 0, _ => Chr.nil _ _ _ (fun i h => absurd h (Nat.not_lt_zero _))
  | k + 1, h => by
    refine (Chr.acc (k := k) (fun i j t hi hj => h i j t hi (by omega))).put k (fun j => by omega) ?_
    intro j t hj hd
    exact h j k t hj (by omega) hd

/-- An operation runs alike over frames that read alike where it looks. -/
theorem alike_of_looks {ops : Array Oper} {o : Oper} {a1 a2 : Act} (hs : ∀ cs b, o.op ≠ .select cs b) (h : ∀ t ∈ o.looksAt ops, a1.tmps[t]? = a2.tmps[t]?) :
    execOp a1.eval o = execOp a2.eval o ∧ Region.wanted o (yielded ops a1.tmps) = Region.wanted o (yielded ops a2.tmps) := by
  constructor
  · refine execOp_congr o hs fun x hx => ?_
    cases x with
    | tmp t =>
      have := h t (List.mem_append_left _ (List.mem_filterMap.2 ⟨.tmp t, by simpa using hx, rfl⟩))
      simp [Act.eval, this]
    | _ => rfl
  · unfold Region.wanted
    cases hg : o.guard with
    | none => rfl
    | some gw =>
      obtain ⟨g, want⟩ := gw
      have hy : yielded ops a1.tmps g = yielded ops a2.tmps g := by
        unfold yielded
        cases ht : (ops[g]?).bind (·.dst) with
        | none => rfl
        | some t =>
          have := h t (List.mem_append_right _ (by simp [hg, ht]))
          simp [this]
      simp only [hy]

/-! ### The shape, read -/
structure Shape (l : List Oper) (n1 n2 : Nat) : Prop where
  nosel : ∀ (j : Nat) (o : Oper) cs b, l[j]? = some o → o.op ≠ .select cs b
  back : ∀ (i : Nat) (o : Oper), l[i]? = some o → ∀ e ∈ o.after, Region.binds .any e = true → e.on < i
  dep : ∀ (i j : Nat) (o : Oper), l[i]? = some o → j < l.length → depB l.toArray i j = true → ∃ e ∈ o.after, Region.binds .any e = true ∧ (e.on = j ∨ depB l.toArray e.on j = true)
  looks : ∀ (i j : Nat) (o : Oper) (t : Tmp), l[i]? = some o → i < n1 + n2 → t ∈ o.looksAt l.toArray → dstOf l j = some t → j < n1 ∧ depB l.toArray i j = true
  dist : ∀ (i j : Nat) (t : Tmp), i < n1 + n2 → j < n1 + n2 → dstOf l i = some t → dstOf l j = some t → i = j
  tail : ∀ (i j : Nat), n1 + n2 ≤ i → i < l.length → j < i → depB l.toArray i j = true

theorem shape_of {l : List Oper} {n1 n2 : Nat} (h : shapeOk l.toArray n1 n2 = true) : Shape l n1 n2 := by
  unfold shapeOk at h
  rw [Bool.and_eq_true] at h
  obtain ⟨h0, h⟩ := h
  simp only [List.all_eq_true, List.mem_range, List.size_toArray, List.getElem?_toArray] at h
  have hx : ∀ (i : Nat) (o : Oper), l[i]? = some o →
      (∀ e ∈ o.after, Region.binds .any e = true → e.on < i) ∧
      (∀ j, j < l.length → depB l.toArray i j = true → ∃ e ∈ o.after, Region.binds .any e = true ∧ (e.on = j ∨ depB l.toArray e.on j = true)) ∧
      (i < n1 + n2 → (∀ t ∈ o.looksAt l.toArray, ∀ j, j < l.length → dstOf l j = some t → j < n1 ∧ depB l.toArray i j = true) ∧
        (∀ j, j < n1 + n2 → j = i ∨ o.dst = none ∨ dstOf l j ≠ o.dst)) ∧
      (n1 + n2 ≤ i → ∀ j, j < i → depB l.toArray i j = true) := by
    intro i o ho
    have hi : i < l.length := (List.getElem?_eq_some_iff.1 ho).1
    have hh := h i hi
    simp only [ho, Bool.and_eq_true] at hh
    obtain ⟨⟨ha, hb⟩, hc⟩ := hh
    refine ⟨?_, ?_, ?_, ?_⟩
    · intro e he hbd
      have := Array.all_eq_true_iff_forall_mem.1 ha e he
      simpa [hbd] using this
    · intro j hj hd
      have := List.all_eq_true.1 hb j (by simpa using hj)
      rw [hd] at this
      rw [Bool.not_true, Bool.false_or, Array.any_eq_true'] at this
      obtain ⟨e, he, hr⟩ := this
      simp only [Bool.and_eq_true, Bool.or_eq_true, beq_iff_eq] at hr
      exact ⟨e, he, hr.1, hr.2⟩
    · intro hlt
      rw [if_pos hlt, Bool.and_eq_true] at hc
      refine ⟨?_, ?_⟩
      · intro t ht j hj hd
        have := List.all_eq_true.1 (List.all_eq_true.1 hc.1 t ht) j (by simpa using hj)
        have hd' : ((l[j]?).bind fun x => x.dst) = some t := hd
        simpa [hd'] using this
      · intro j hj
        have := List.all_eq_true.1 hc.2 j (by simpa using hj)
        simp only [Bool.or_eq_true, beq_iff_eq, Option.isNone_iff_eq_none, bne_iff_ne, ne_eq] at this
        rcases this with (h1 | h1) | h1
        · exact .inl h1
        · exact .inr (.inl h1)
        · exact .inr (.inr (by simpa [dstOf] using h1))
    · intro hge j hj
      rw [if_neg (by omega)] at hc
      exact List.all_eq_true.1 hc j (by simpa using hj)
  have hlt : ∀ j t, dstOf l j = some t → j < l.length := by
    intro j t hd
    unfold dstOf at hd
    cases hj : l[j]? with
    | none => simp [hj] at hd
    | some o => exact (List.getElem?_eq_some_iff.1 hj).1
  refine ⟨fun j o cs b ho => Region.noSelect_spec h0 j o cs b (by simpa using ho), fun i o ho => (hx i o ho).1, fun i j o ho hj => (hx i o ho).2.1 j hj, ?_, ?_, ?_⟩
  · intro i j o t ho hi ht hd
    exact ((hx i o ho).2.2.1 hi).1 t ht j (hlt j t hd) hd
  · intro i j t hi hj hdi hdj
    obtain ⟨o, ho⟩ : ∃ o, l[i]? = some o := ⟨_, List.getElem?_eq_getElem (hlt i t hdi)⟩
    have hod : o.dst = some t := by simpa [dstOf, ho] using hdi
    rcases ((hx i o ho).2.2.1 hi).2 j hj with h1 | h1 | h1
    · exact h1.symm
    · rw [hod] at h1; cases h1
    · rw [hod] at h1; exact absurd hdj h1
  · intro i j hge hi hj
    exact (hx i _ (List.getElem?_eq_getElem hi)).2.2.2 hge j hj

/-- How many have not come up. -/
theorem countP_turn {p q : Nat → Bool} {i : Nat} (hp : p i = true) (hq : q i = false) (h : ∀ j, j ≠ i → q j = p j) : ∀ {n : Nat}, i < n → (List.range n).countP q + 1 = (List.range n).countP p
  | 0, hi => absurd hi (Nat.not_lt_zero _)
  | n + 1, hi => by
    rw [List.range_succ, List.countP_append, List.countP_append]
    by_cases hin : i = n
    · subst hin
      have : (List.range i).countP q = (List.range i).countP p := List.countP_congr fun j hj => by rw [h j (by have := List.mem_range.1 hj; omega)]
      simp [hp, hq, this]
    · have := countP_turn hp hq h (n := n) (by omega)
      have hn : q n = p n := h n (fun e => hin e.symm)
      simp [hn]; omega

/-! ### The theorem -/
section draw
variable {l : List Oper} {Q : Exit → Act → World → Prop}

/-- All that stands ahead of number k has come up, and nothing else: it comes up next, and so on. -/
theorem wpAny_tail {n1 n2 : Nat} (sh : Shape l n1 n2) : ∀ (fuel k : Nat) (listed : Array Bool) (a : Act) (w : World), n1 + n2 ≤ k → k + fuel = l.length → listed.size = l.length →
    (∀ i, i < l.length → (listed.getD i true = true ↔ i < k)) → wpList Try.prog l.toArray Q (l.drop k) a w → wpAny Try.prog .any l.toArray Q fuel listed a w := by
  have nodep : ∀ (k i : Nat) (listed : Array Bool), n1 + n2 ≤ k → listed.size = l.length → (∀ i, i < l.length → (listed.getD i true = true ↔ i < k)) → i ∈ Region.ready .any l.toArray listed → i = k := by
    intro k i listed hk hsz hl hi
    obtain ⟨hun, o, ho, hall⟩ := mem_ready.1 hi
    have hol : l[i]? = some o := by simpa using ho
    have hil : i < l.length := (List.getElem?_eq_some_iff.1 hol).1
    have hik : ¬ i < k := fun h => by rw [(hl i hil).2 h] at hun; cases hun
    rcases Nat.lt_or_ge k i with hlt | hge
    · obtain ⟨e, he, hb, hr⟩ := sh.dep i k o hol (by omega) (sh.tail i k (by omega) hil hlt)
      have h1 := hall e he hb
      have hei := sh.back i o hol e he hb
      have hel : e.on < l.length := by omega
      have hlt2 : e.on < k := (hl e.on hel).1 (by
        have hs : e.on < listed.size := by omega
        simpa [hs] using h1)
      rcases hr with rfl | hr
      · omega
      · -- it hangs on something behind it
        exfalso
        have : ∀ m, m < l.length → m < k → depB l.toArray m k = true → False := by
          intro m
          induction m using Nat.strongRecOn with
          | ind m ih =>
            intro hm hmk hd
            obtain ⟨e', he', hb', hr'⟩ := sh.dep m k _ (List.getElem?_eq_getElem hm) (by omega) hd
            have := sh.back m _ (List.getElem?_eq_getElem hm) e' he' hb'
            rcases hr' with rfl | hr'
            · omega
            · exact ih e'.on this (by omega) (by omega) hr'
        exact this e.on hel hlt2 hr
    · omega
  intro fuel
  induction fuel with
  | zero =>
    intro k listed a w hk hf hsz hl h
    refine ⟨List.eq_nil_iff_forall_not_mem.2 fun i hi => ?_, ?_⟩
    · have := nodep k i listed hk hsz hl hi
      obtain ⟨_, o, ho, _⟩ := mem_ready.1 hi
      have : i < l.length := (List.getElem?_eq_some_iff.1 (show l[i]? = some o by simpa using ho)).1
      omega
    · rw [List.drop_of_length_le (by omega)] at h; exact h
  | succ fuel ih =>
    intro k listed a w hk hf hsz hl h
    have hkl : k < l.length := by omega
    have hko : l[k]? = some l[k] := List.getElem?_eq_getElem hkl
    refine ⟨fun h0 => ?_, fun i hi => ?_⟩
    · exfalso
      have : k ∈ Region.ready .any l.toArray listed := by
        refine mem_ready.2 ⟨?_, l[k], by simp, fun e he hb => ?_⟩
        · cases hg : listed.getD k true with
          | false => rfl
          | true => exact absurd ((hl k hkl).1 hg) (Nat.lt_irrefl _)
        · have hek := sh.back k _ hko e he hb
          have := (hl e.on (by omega)).2 hek
          have hs : e.on < listed.size := by omega
          simpa [hs] using this
      rw [h0] at this; cases this
    · have hik := nodep k i listed hk hsz hl hi
      subst hik
      rw [List.drop_eq_getElem_cons hkl] at h
      have h' : wpOp Try.prog l.toArray Q i (wpList Try.prog l.toArray Q (l.drop (i + 1))) a w := by
        unfold wpOp
        rw [show l.toArray[i]? = some l[i] by simp]
        exact h
      refine wpOp_mono (fun a' w' h1 => ih (i + 1) _ a' w' (by omega) (by omega) (by simp [hsz]) ?_ h1) h'
      intro j hj
      by_cases hji : j = i
      · subst hji
        have hs : j < listed.size := by omega
        simp [hs]
      · rw [getD_set_ne true (fun e => hji e.symm), hl j hj]; omega

/-- The new variables that have come up. -/
structure News (W : Base) (w : World) (bs : List Blk) (L : List (Array Value × TypeId)) (β : Nat → Nat) (S : Nat → Prop) : Prop where
  at_ : ∀ q, q < L.length → S q → W.own (β q) ∧ w.heap[β q]? = some (.cells (L.getD q (#[], 0)).1 (L.getD q (#[], 0)).2 (0, 0)) ∧ ∀ x ∈ bs, x.1 ≠ β q
  ne : ∀ q r, q < L.length → r < L.length → S q → S r → q ≠ r → β q ≠ β r

theorem News.below {W : Base} {w w' : World} {bs : List Blk} {L : List (Array Value × TypeId)} {β : Nat → Nat} {S : Nat → Prop} (h : News W w bs L β S) (hb : Below w.heap.size w w') : News W w' bs L β S :=
  ⟨fun q hq hs => by
    obtain ⟨h1, h2, h3⟩ := h.at_ q hq hs
    exact ⟨h1, by rw [hb.block _ (Array.getElem?_eq_some_iff.1 h2).1]; exact h2, h3⟩, h.ne⟩

theorem has_news {W : Base} {w : World} {bs : List Blk} (hH : Has W w bs) {L : List (Array Value × TypeId)} {β : Nat → Nat} (h : News W w bs L β (fun _ => True)) : Has W w (nbOf L β ++ bs) := by
  refine ⟨hH.good, ?_, ?_⟩
  · intro x hx
    rcases List.mem_append.1 hx with hx | hx
    · obtain ⟨q, hq, rfl⟩ := List.mem_map.1 hx
      have := h.at_ q (List.mem_range.1 hq) trivial
      exact ⟨this.1, this.2.1⟩
    · exact hH.blk x hx
  · refine List.pairwise_append.2 ⟨?_, hH.nd, ?_⟩
    · refine List.pairwise_map.2 ?_
      refine List.Pairwise.imp_of_mem ?_ (List.pairwise_lt_range (n := L.length))
      intro q r hq hr hlt
      exact h.ne q r (List.mem_range.1 hq) (List.mem_range.1 hr) trivial trivial (by omega)
    · intro x hx y hy
      obtain ⟨q, hq, rfl⟩ := List.mem_map.1 hx
      exact fun e => (h.at_ q (List.mem_range.1 hq) trivial).2.2 y hy e.symm

/-- The value of number i, the new variables' blocks being β. -/
def valOf (n1 : Nat) (v : Nat → Value) (β : Nat → Nat) (i : Nat) : Value := if i < n1 then v i else .pointer (some ⟨β (i - n1), 0, none⟩)

theorem wpAny_pre {n1 : Nat} {L : List (Array Value × TypeId)} (sh : Shape l n1 L.length) (hn : n1 + L.length ≤ l.length) {W : Base} {bs : List Blk} {a0 : Act} {v : Nat → Value}
    (hy : ∀ i o, i < n1 → l[i]? = some o → ∀ w, Has W w bs → Yld l.toArray o (accL l v a0 i) w (v i))
    (hN : ∀ (q : Nat) (o : Oper) (c : Array Value × TypeId), l[n1 + q]? = some o → L[q]? = some c → NewOp o (accL l v a0 n1) c.1 c.2)
    (hfin : ∀ β w, Has W w (nbOf L β ++ bs) → wpList Try.prog l.toArray Q (l.drop (n1 + L.length)) (accL l (valOf n1 v β) a0 (n1 + L.length)) w) :
    ∀ (fuel : Nat) (listed : Array Bool) (a : Act) (w : World) (β : Nat → Nat), listed.size = l.length → (List.range l.length).countP (fun i => !listed.getD i true) = fuel →
      (∀ i j, i < l.length → j < l.length → listed.getD i true = true → depB l.toArray i j = true → listed.getD j true = true) →
      (∀ i, i < l.length → n1 + L.length ≤ i → listed.getD i true = false) → (∃ i, i < n1 + L.length ∧ listed.getD i true = false) →
      Chr l (valOf n1 v β) (fun i => i < n1 + L.length ∧ listed.getD i true = true) a0 a → Has W w bs → News W w bs L β (fun q => listed.getD (n1 + q) true = true) →
      wpAny Try.prog .any l.toArray Q fuel listed a w := by
  have hdist : ∀ i j t, i < n1 + L.length → j < n1 + L.length → dstOf l i = some t → dstOf l j = some t → i = j := sh.dist
  intro fuel
  induction fuel with
  | zero =>
    intro listed a w β hsz hc hcl htl hex hchr hH hNews
    obtain ⟨i, hi, hu⟩ := hex
    have hm : i ∈ List.range l.length := List.mem_range.2 (by omega)
    have := List.countP_eq_zero.1 hc i hm
    simp only [hu] at this
    exact absurd rfl this
  | succ fuel ih =>
    intro listed a w β hsz hc hcl htl hex hchr hH hNews
    refine ⟨fun h0 => ?_, fun i hi => ?_⟩
    · -- the least that has not come up may come up
      exfalso
      obtain ⟨i, hi, hu⟩ := hex
      have : ∀ m, m < n1 + L.length → listed.getD m true = false → False := by
        intro m
        induction m using Nat.strongRecOn with
        | ind m ihm =>
          intro hm hum
          have hml : m < l.length := by omega
          have hmr : m ∈ Region.ready .any l.toArray listed := by
            refine mem_ready.2 ⟨hum, l[m], by simp, fun e he hb => ?_⟩
            have hem := sh.back m _ (List.getElem?_eq_getElem hml) e he hb
            have hs : e.on < listed.size := by omega
            cases hg : listed.getD e.on true with
            | true => simpa [hs] using hg
            | false => exact (ihm e.on hem (by omega) hg).elim
          rw [h0] at hmr; cases hmr
      exact this i hi hu
    · obtain ⟨hun, o, ho, hall⟩ := mem_ready.1 hi
      have hol : l[i]? = some o := by simpa using ho
      have hil : i < l.length := (List.getElem?_eq_some_iff.1 hol).1
      have his : i < listed.size := by omega
      -- what it waits for has come up
      have hdep : ∀ j, j < l.length → depB l.toArray i j = true → listed.getD j true = true := by
        intro j hj hd
        obtain ⟨e, he, hb, hr⟩ := sh.dep i j o hol hj hd
        have hei := sh.back i o hol e he hb
        have hes : e.on < listed.size := by omega
        have h1 : listed.getD e.on true = true := by simpa [hes] using hall e he hb
        rcases hr with rfl | hr
        · exact h1
        · exact hcl e.on j (by omega) hj h1 hr
      have hin : i < n1 + L.length := by
        rcases Nat.lt_or_ge i (n1 + L.length) with h | h
        · exact h
        · obtain ⟨j, hj, hju⟩ := hex
          have := hdep j (by omega) (sh.tail i j h hil (by omega))
          rw [this] at hju; cases hju
      -- whatever it looks at reads as in the text's order
      have hlook : ∀ k, k ≤ n1 → k ≤ i → (∀ j t, t ∈ o.looksAt l.toArray → dstOf l j = some t → j < k ∨ k = n1) → ∀ t ∈ o.looksAt l.toArray, a.tmps[t]? = (accL l v a0 k).tmps[t]? := by
        intro k hk hki hlow t ht
        have hacc : Chr l (valOf n1 v β) (· < k) a0 (accL l v a0 k) := by
          have : accL l v a0 k = accL l (valOf n1 v β) a0 k := accL_congr fun j hj => by simp [valOf, show j < n1 by omega]
          rw [this]
          exact Chr.acc fun x y t' hxy hyk hdx hdy => by have := hdist x y t' (by omega) (by omega) hdx hdy; omega
        refine hchr.agree hacc ?_
        intro j _ hd
        obtain ⟨hj1, hjd⟩ := sh.looks i j o t hol hin ht hd
        have hjl : j < l.length := by omega
        refine ⟨⟨by omega, hdep j hjl hjd⟩, ?_⟩
        rcases hlow j t ht hd with h | h
        · exact h
        · omega
      have hlow : ∀ j t, t ∈ o.looksAt l.toArray → dstOf l j = some t → j < i := by
        intro j t ht hd
        obtain ⟨_, hjd⟩ := sh.looks i j o t hol hin ht hd
        have hgen : ∀ m, m < l.length → ∀ j, j < l.length → depB l.toArray m j = true → j < m := by
          intro m
          induction m using Nat.strongRecOn with
          | ind m ihm =>
            intro hm j hj hd
            obtain ⟨e, he, hb, hr⟩ := sh.dep m j _ (List.getElem?_eq_getElem hm) hj hd
            have hem := sh.back m _ (List.getElem?_eq_getElem hm) e he hb
            rcases hr with rfl | hr
            · exact hem
            · have := ihm e.on hem (by omega) j hj hr; omega
        have hjl : j < l.length := by
          unfold dstOf at hd
          cases hj : l[j]? with
          | none => simp [hj] at hd
          | some o' => exact (List.getElem?_eq_some_iff.1 hj).1
        exact hgen i hil j hjl hjd
      -- the rest, whatever block it took
      have hrest : ∀ (β' : Nat → Nat) (w' : World), (∀ q, q < L.length → listed.getD (n1 + q) true = true → β' q = β q) → Has W w' bs →
          News W w' bs L β' (fun q => (listed.setIfInBounds i true).getD (n1 + q) true = true) →
          wpAny Try.prog .any l.toArray Q fuel (listed.setIfInBounds i true) (a.put (dstOf l i) (valOf n1 v β' i)) w' := by
        intro β' w' hβ hH' hNews'
        have hval : ∀ j, (j < n1 + L.length ∧ listed.getD j true = true) → valOf n1 v β j = valOf n1 v β' j := by
          intro j hj
          unfold valOf
          split
          · rfl
          · rw [hβ (j - n1) (by omega) (by rw [show n1 + (j - n1) = j by omega]; exact hj.2)]
        have hchr' : Chr l (valOf n1 v β') (fun j => j < n1 + L.length ∧ listed.getD j true = true) a0 a :=
          ⟨hchr.size, hchr.defers, fun j t hj hd hl => by rw [hchr.val j t hj hd hl, hval j hj], hchr.old⟩
        have hiff : ∀ j, (j < n1 + L.length ∧ (listed.setIfInBounds i true).getD j true = true) ↔ (j < n1 + L.length ∧ listed.getD j true = true) ∨ j = i := by
          intro j
          by_cases hji : j = i
          · subst hji; simp [his, hin]
          · rw [getD_set_ne true (fun e => hji e.symm)]; simp [hji]
        have hchr2 := hchr'.put i hiff (fun j t hj hdj hdi => by
          have := hdist j i t hj.1 hin hdj hdi
          subst this
          rw [hun] at hj; cases hj.2)
        have hsz' : (listed.setIfInBounds i true).size = l.length := by simp [hsz]
        have hc' : (List.range l.length).countP (fun j => !(listed.setIfInBounds i true).getD j true) = fuel := by
          have := countP_turn (p := fun j => !listed.getD j true) (q := fun j => !(listed.setIfInBounds i true).getD j true) (i := i) (by simp only [hun]; rfl) (by simp [his])
            (fun j hj => by simp only [getD_set_ne true (fun e => hj e.symm)]) hil
          omega
        have htl' : ∀ j, j < l.length → n1 + L.length ≤ j → (listed.setIfInBounds i true).getD j true = false := by
          intro j hj hge
          rw [getD_set_ne true (by omega)]; exact htl j hj hge
        by_cases hmore : ∃ j, j < n1 + L.length ∧ (listed.setIfInBounds i true).getD j true = false
        · refine ih _ _ w' β' hsz' hc' ?_ htl' hmore hchr2 hH' hNews'
          intro x y hx hy' hxl hd
          by_cases hxi : x = i
          · subst hxi
            have := hdep y hy' hd
            by_cases hyx : y = x
            · subst hyx; simp [his]
            · rw [getD_set_ne true (fun e => hyx e.symm)]; exact this
          · rw [getD_set_ne true (fun e => hxi e.symm)] at hxl
            have := hcl x y hx hy' hxl hd
            by_cases hyi : y = i
            · subst hyi; simp [his]
            · rw [getD_set_ne true (fun e => hyi e.symm)]; exact this
        · have hallup : ∀ j, j < n1 + L.length → (listed.setIfInBounds i true).getD j true = true := by
            intro j hj
            cases hg : (listed.setIfInBounds i true).getD j true with
            | true => rfl
            | false => exact absurd ⟨j, hj, hg⟩ hmore
          have hacc : Chr l (valOf n1 v β') (· < n1 + L.length) a0 (accL l (valOf n1 v β') a0 (n1 + L.length)) :=
            Chr.acc fun x y t' hxy hyk hdx hdy => by have := hdist x y t' (by omega) (by omega) hdx hdy; omega
          have heq : a.put (dstOf l i) (valOf n1 v β' i) = accL l (valOf n1 v β') a0 (n1 + L.length) := by
            refine Chr.ext (S := (· < n1 + L.length)) ⟨hchr2.size, hchr2.defers, fun j t hj => hchr2.val j t ⟨hj, hallup j hj⟩, fun t ht => hchr2.old t fun j hj => ht j hj.1⟩ hacc
          rw [heq]
          have hcount : fuel = l.length - (n1 + L.length) := by
            have e : (List.range l.length).countP (fun j => !(listed.setIfInBounds i true).getD j true) = (List.range l.length).countP (fun j => decide (n1 + L.length ≤ j)) := by
              refine List.countP_congr fun j hj => ?_
              have hj' := List.mem_range.1 hj
              rcases Nat.lt_or_ge j (n1 + L.length) with h | h
              · simp only [hallup j h]; simp; omega
              · simp only [htl' j hj' h]; simp; omega
            rw [hc'] at e
            rw [e]
            have : ∀ m k, (List.range (k + m)).countP (fun j => decide (k ≤ j)) = m := by
              intro m
              induction m with
              | zero =>
                intro k
                rw [List.countP_eq_zero]
                intro j hj
                have := List.mem_range.1 hj
                simp; omega
              | succ m ihm =>
                intro k
                rw [← Nat.add_assoc, List.range_succ, List.countP_append, ihm k]
                simp
            have h1 := this (l.length - (n1 + L.length)) (n1 + L.length)
            rwa [show n1 + L.length + (l.length - (n1 + L.length)) = l.length by omega] at h1
          refine wpAny_tail sh fuel (n1 + L.length) _ _ w' (Nat.le_refl _) (by omega) hsz' ?_ (hfin β' w' (has_news hH' ⟨fun q hq _ => hNews'.at_ q hq (hallup _ (by omega)), fun q r hq hr _ _ hne => hNews'.ne q r hq hr (hallup _ (by omega)) (hallup _ (by omega)) hne⟩))
          intro j hj
          rcases Nat.lt_or_ge j (n1 + L.length) with h | h
          · simp only [hallup j h, h]
          · simp only [htl' j hj h]; simp; omega
      have hsel : ∀ cs b, o.op ≠ .select cs b := fun cs b => sh.nosel i o cs b hol
      have hdo : o.dst = dstOf l i := by simp [dstOf, hol]
      by_cases hi1 : i < n1
      · obtain ⟨he, hw⟩ := alike_of_looks (a2 := accL l v a0 i) hsel (hlook i (by omega) (Nat.le_refl _) (fun j t ht hd => .inl (hlow j t ht hd)))
        refine (hy i o hi1 hol w hH).wpOp (by simpa using hol) hw he ?_
        intro w' hb
        have hH' := hH.call hb
        have := hrest β w' (fun _ _ _ => rfl) hH' ⟨fun q hq hs => (hNews.below hb).at_ q hq (by rwa [getD_set_ne true (by omega)] at hs),
          fun q r hq hr hs hs' hne => hNews.ne q r hq hr (by rwa [getD_set_ne true (by omega)] at hs) (by rwa [getD_set_ne true (by omega)] at hs') hne⟩
        rw [hdo]
        simpa [valOf, hi1] using this
      · obtain ⟨q, rfl⟩ : ∃ q, i = n1 + q := ⟨i - n1, by omega⟩
        have hq : q < L.length := by omega
        obtain ⟨he, _⟩ := alike_of_looks (a2 := accL l v a0 n1) hsel (hlook n1 (Nat.le_refl _) (by omega) (fun j t ht hd => .inr rfl))
        refine (hN q o L[q] hol (List.getElem?_eq_getElem hq)).wpOp (by simpa using hol) he ?_
        have hH' : Has W (w.alloc (.cells L[q].1 L[q].2)) bs := (hH.alloc _ _).sub (List.sublist_cons_self _ _)
        have hbel : Below w.heap.size w (w.alloc (.cells L[q].1 L[q].2)) := (Below.refl _ _).alloc (Nat.le_refl _) _
        have hnq : ∀ r, r < L.length → r ≠ q → ((listed.setIfInBounds (n1 + q) true).getD (n1 + r) true = true ↔ listed.getD (n1 + r) true = true) := fun r _ hr => by rw [getD_set_ne true (by omega)]
        have := hrest (fun r => if r = q then w.heap.size else β r) _ (fun r hr hs => by
            have : r ≠ q := fun e => by subst e; rw [hun] at hs; cases hs
            simp [this]) hH' ⟨fun r hr hs => by
              by_cases hrq : r = q
              · subst hrq
                refine ⟨by simp only [if_true]; exact W.new _ _ hH.good (Nat.le_refl _), ?_, fun x hx => ?_⟩
                · simp only [if_true]; rw [heap_alloc_new]; simp [hr]
                · simp only [if_true]; exact Nat.ne_of_lt (hH.lt hx)
              · simp only [hrq, if_false]
                exact (hNews.below hbel).at_ r hr ((hnq r hr hrq).1 hs), fun r s hr hs hur hus hne => by
              by_cases hrq : r = q
              · subst hrq
                have hsr : s ≠ r := fun e => hne e.symm
                simp only [if_true, hsr, if_false]
                have := (hNews.at_ s hs ((hnq s hs hsr).1 hus)).2.1
                exact Nat.ne_of_gt (Array.getElem?_eq_some_iff.1 this).1
              · by_cases hsq : s = q
                · subst hsq
                  simp only [if_true, hrq, if_false]
                  have := (hNews.at_ r hr ((hnq r hr hrq).1 hur)).2.1
                  exact Nat.ne_of_lt (Array.getElem?_eq_some_iff.1 this).1
                · simp only [hrq, hsq, if_false]
                  exact hNews.ne r s hr hs ((hnq r hr hrq).1 hur) ((hnq s hs hsq).1 hus) hne⟩
        rw [hdo]
        simpa [valOf, hi1] using this

/-- **A REGION THAT DRAWS ITS ORDER, IN ONE WALK.** -/
theorem wp_draw {id : Nat} {a : Act} {w : World} {W : Base} {bs : List Blk} (n1 : Nat) (L : List (Array Value × TypeId)) (hs : shapeOk l.toArray n1 L.length = true) (hH : Has W w bs)
    (h : wpD l.toArray W bs n1 (fun os A => wpN A L (fun os F nb => ∀ w', Has W w' (nb ++ bs) → wpList Try.prog l.toArray Q os F w') os A []) l a) :
    (Code.region id l.toArray true).wp Try.prog Q a w := by
  have sh := shape_of hs
  obtain ⟨hl1, v, hy, h2⟩ := wpD_out h
  obtain ⟨hl2, hN, h3⟩ := wpN_out h2
  have hn : n1 + L.length ≤ l.length := by simp at hl2; omega
  refine wp_region_any (by kernel_rfl) ?_
  have hH' : Has W { w with drawn := w.drawn + 1 } bs := hH.drew
  have hfin : ∀ β w, Has W w (nbOf L β ++ bs) → wpList Try.prog l.toArray Q (l.drop (n1 + L.length)) (accL l (valOf n1 v β) a (n1 + L.length)) w := by
    intro β w hw
    have := h3 β w (by simpa using hw)
    have e1 : accL l (valOf n1 v β) a n1 = accL l v a n1 := accL_congr fun i hi => by simp [valOf, hi]
    rw [accL_drop, e1]
    have e2 : (fun i => valOf n1 v β (n1 + i)) = (fun i => Value.pointer (some ⟨β i, 0, none⟩)) := by
      funext i; simp only [valOf]; rw [if_neg (by omega), show n1 + i - n1 = i by omega]
    rw [e2]
    simpa [List.drop_drop] using this
  have hrep : ∀ i, i < l.length → (Array.replicate l.toArray.size false).getD i true = false := fun i hi => by simp [hi]
  by_cases h0 : n1 + L.length = 0
  · have h1 := hfin (fun _ => 0) _ (has_news hH' (L := L) ⟨fun q hq => by omega, fun q r hq => by omega⟩)
    rw [h0] at h1
    have := wpAny_tail (Q := Q) sh l.length 0 (Array.replicate l.toArray.size false) a { w with drawn := w.drawn + 1 } (by omega) (by omega) (by simp) (fun i hi => by simp only [hrep i hi]; simp) (by simpa [accL] using h1)
    simpa using this
  · have := wpAny_pre (Q := Q) sh hn hy (fun q o c ho hc => hN q o c (by simpa using ho) hc) hfin l.length (Array.replicate l.toArray.size false) a { w with drawn := w.drawn + 1 } (fun _ => 0) (by simp)
      (by
        have : (List.range l.length).countP (fun i => !(Array.replicate l.toArray.size false).getD i true) = (List.range l.length).length := List.countP_eq_length.2 fun i hi => by simp only [hrep i (List.mem_range.1 hi)]; rfl
        simpa using this)
      (fun i j hi _ hl _ => by rw [hrep i hi] at hl; cases hl) (fun i hi _ => hrep i hi) ⟨0, by omega, hrep 0 (by omega)⟩
      (Chr.nil _ _ _ fun i hi => by have := hrep i (by omega); rw [this] at hi; cases hi.2) hH'
      ⟨fun q hq hs => (by rw [hrep (n1 + q) (by omega)] at hs; cases hs), fun q r hq hr hs => (by rw [hrep (n1 + q) (by omega)] at hs; cases hs)⟩
    simpa using this

end draw

end Go.Proofs.Ytmbbdblmengdhaa
