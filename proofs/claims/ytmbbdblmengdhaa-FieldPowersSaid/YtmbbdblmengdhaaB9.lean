/- A region that draws its order and stores into one of its own new variables while the rest still comes up: one walk in the text's order. -/
import Derived.Test.YtmbbdblmengdhaaB1
import Derived.Laws.Tables
namespace Go.Proofs.Ytmbbdblmengdhaa
open Go.RowKit

/-! ### The shape, read -/
structure ShapeS (l : List Oper) (n1 n2 : Nat) : Prop where
  nosel : ∀ (j : Nat) (o : Oper) cs b, l[j]? = some o → o.op ≠ .select cs b
  back : ∀ (i : Nat) (o : Oper), l[i]? = some o → ∀ e ∈ o.after, Region.binds .any e = true → e.on < i
  dep : ∀ (i j : Nat) (o : Oper), l[i]? = some o → j < l.length → depB l.toArray i j = true → ∃ e ∈ o.after, Region.binds .any e = true ∧ (e.on = j ∨ depB l.toArray e.on j = true)
  looks : ∀ (i j : Nat) (o : Oper) (t : Tmp), l[i]? = some o → i < n1 + n2 + 1 → t ∈ o.looksAt l.toArray → dstOf l j = some t → (j < n1 ∨ (i = n1 + n2 ∧ j < n1 + n2)) ∧ depB l.toArray i j = true
  dist : ∀ (i j : Nat) (t : Tmp), i < n1 + n2 + 1 → j < n1 + n2 + 1 → dstOf l i = some t → dstOf l j = some t → i = j
  tail : ∀ (i j : Nat), n1 + n2 + 1 ≤ i → i < l.length → j < i → depB l.toArray i j = true

def shapeOkS (ops : Array Oper) (n1 n2 q0 : Nat) : Bool :=
  (Region.noSelect ops) &&
  ((List.range ops.size).all (fun i => match ops[i]? with
    | none => false
    | some o =>
      (o.after.all fun e => !Region.binds .any e || e.on < i) &&
      ((List.range ops.size).all fun j => !depB ops i j || o.after.any fun e => Region.binds .any e && (e.on == j || depB ops e.on j)) &&
      (if i < n1 + n2 + 1 then
        ((o.looksAt ops).all fun t => (List.range ops.size).all fun j => (ops[j]?.bind (·.dst)) != some t || ((decide (j < n1) || (decide (i = n1 + n2) && decide (j < n1 + n2))) && depB ops i j)) &&
        ((List.range (n1 + n2 + 1)).all fun j => j == i || o.dst.isNone || (ops[j]?.bind (·.dst)) != o.dst)
      else (List.range i).all fun j => depB ops i j)) &&
  (decide (q0 < n2) && (ops[n1 + n2]?.bind (·.dst)).isNone && depB ops (n1 + n2) (n1 + q0)))

theorem shape_ofS {l : List Oper} {n1 n2 q0 : Nat} (h : shapeOkS l.toArray n1 n2 q0 = true) : ShapeS l n1 n2 ∧ q0 < n2 ∧ dstOf l (n1 + n2) = none ∧ depB l.toArray (n1 + n2) (n1 + q0) = true := by
  unfold shapeOkS at h
  rw [Bool.and_eq_true, Bool.and_eq_true, Bool.and_eq_true, Bool.and_eq_true] at h
  obtain ⟨h0, h, ⟨h4, h5⟩, h6⟩ := h
  refine ⟨?_, of_decide_eq_true h4, by simpa [dstOf] using h5, h6⟩
  simp only [List.all_eq_true, List.mem_range, List.size_toArray, List.getElem?_toArray] at h
  have hx : ∀ (i : Nat) (o : Oper), l[i]? = some o →
      (∀ e ∈ o.after, Region.binds .any e = true → e.on < i) ∧
      (∀ j, j < l.length → depB l.toArray i j = true → ∃ e ∈ o.after, Region.binds .any e = true ∧ (e.on = j ∨ depB l.toArray e.on j = true)) ∧
      (i < n1 + n2 + 1 → (∀ t ∈ o.looksAt l.toArray, ∀ j, j < l.length → dstOf l j = some t → (j < n1 ∨ (i = n1 + n2 ∧ j < n1 + n2)) ∧ depB l.toArray i j = true) ∧
        (∀ j, j < n1 + n2 + 1 → j = i ∨ o.dst = none ∨ dstOf l j ≠ o.dst)) ∧
      (n1 + n2 + 1 ≤ i → ∀ j, j < i → depB l.toArray i j = true) := by
    intro i o ho
    have hi : i < l.length := (List.getElem?_eq_some_iff.1 ho).1
    have hh := h i hi
    simp only [ho, Bool.and_eq_true] at hh
    obtain ⟨⟨ha, hb⟩, hc⟩ := hh
    refine ⟨?_, ?_, ?_, ?_⟩
    · intro e he hbd
      have := Array.all_eq_true_iff_forall_mem.1 ha e he
      simpa [hbd] using this
    · intro j hj hd
      have := List.all_eq_true.1 hb j (by simpa using hj)
      rw [hd] at this
      rw [Bool.not_true, Bool.false_or, Array.any_eq_true'] at this
      obtain ⟨e, he, hr⟩ := this
      simp only [Bool.and_eq_true, Bool.or_eq_true, beq_iff_eq] at hr
      exact ⟨e, he, hr.1, hr.2⟩
    · intro hlt
      rw [if_pos hlt, Bool.and_eq_true] at hc
      refine ⟨?_, ?_⟩
      · intro t ht j hj hd
        have := List.all_eq_true.1 (List.all_eq_true.1 hc.1 t ht) j (by simpa using hj)
        have hd' : ((l[j]?).bind fun x => x.dst) = some t := hd
        simpa [hd'] using this
      · intro j hj
        have := List.all_eq_true.1 hc.2 j (by simpa using hj)
        simp only [Bool.or_eq_true, beq_iff_eq, Option.isNone_iff_eq_none, bne_iff_ne, ne_eq] at this
        rcases this with (h1 | h1) | h1
        · exact .inl h1
        · exact .inr (.inl h1)
        · exact .inr (.inr (by simpa [dstOf] using h1))
    · intro hge j hj
      rw [if_neg (by omega)] at hc
      exact List.all_eq_true.1 hc j (by simpa using hj)
  have hlt : ∀ j t, dstOf l j = some t → j < l.length := by
    intro j t hd
    unfold dstOf at hd
    cases hj : l[j]? with
    | none => simp [hj] at hd
    | some o => exact (List.getElem?_eq_some_iff.1 hj).1
  refine ⟨fun j o cs b ho => Region.noSelect_spec h0 j o cs b (by simpa using ho), fun i o ho => (hx i o ho).1, fun i j o ho hj => (hx i o ho).2.1 j hj, ?_, ?_, ?_⟩
  · intro i j o t ho hi ht hd
    exact ((hx i o ho).2.2.1 hi).1 t ht j (hlt j t hd) hd
  · intro i j t hi hj hdi hdj
    obtain ⟨o, ho⟩ : ∃ o, l[i]? = some o := ⟨_, List.getElem?_eq_getElem (hlt i t hdi)⟩
    have hod : o.dst = some t := by simpa [dstOf, ho] using hdi
    rcases ((hx i o ho).2.2.1 hi).2 j hj with h1 | h1 | h1
    · exact h1.symm
    · rw [hod] at h1; cases h1
    · rw [hod] at h1; exact absurd hdj h1
  · intro i j hge hi hj
    exact (hx i _ (List.getElem?_eq_getElem hi)).2.2.2 hge j hj

section draw
variable {l : List Oper} {Q : Exit → Act → World → Prop}

/-- All that stands ahead of number k has come up, and nothing else: it comes up next, and so on. -/
theorem wpAny_tailS {n1 n2 : Nat} (sh : ShapeS l n1 n2) : ∀ (fuel k : Nat) (listed : Array Bool) (a : Act) (w : World), n1 + n2 + 1 ≤ k → k + fuel = l.length → listed.size = l.length →
    (∀ i, i < l.length → (listed.getD i true = true ↔ i < k)) → wpList Try.prog l.toArray Q (l.drop k) a w → wpAny Try.prog .any l.toArray Q fuel listed a w := by
  have nodep : ∀ (k i : Nat) (listed : Array Bool), n1 + n2 + 1 ≤ k → listed.size = l.length → (∀ i, i < l.length → (listed.getD i true = true ↔ i < k)) → i ∈ Region.ready .any l.toArray listed → i = k := by
    intro k i listed hk hsz hl hi
    obtain ⟨hun, o, ho, hall⟩ := mem_ready.1 hi
    have hol : l[i]? = some o := by simpa using ho
    have hil : i < l.length := (List.getElem?_eq_some_iff.1 hol).1
    have hik : ¬ i < k := fun h => by rw [(hl i hil).2 h] at hun; cases hun
    rcases Nat.lt_or_ge k i with hlt | hge
    · obtain ⟨e, he, hb, hr⟩ := sh.dep i k o hol (by omega) (sh.tail i k (by omega) hil hlt)
      have h1 := hall e he hb
      have hei := sh.back i o hol e he hb
      have hel : e.on < l.length := by omega
      have hlt2 : e.on < k := (hl e.on hel).1 (by
        have hs : e.on < listed.size := by omega
        simpa [hs] using h1)
      rcases hr with rfl | hr
      · omega
      · -- it hangs on something behind it
        exfalso
        have : ∀ m, m < l.length → m < k → depB l.toArray m k = true → False := by
          intro m
          induction m using Nat.strongRecOn with
          | ind m ih =>
            intro hm hmk hd
            obtain ⟨e', he', hb', hr'⟩ := sh.dep m k _ (List.getElem?_eq_getElem hm) (by omega) hd
            have := sh.back m _ (List.getElem?_eq_getElem hm) e' he' hb'
            rcases hr' with rfl | hr'
            · omega
            · exact ih e'.on this (by omega) (by omega) hr'
        exact this e.on hel hlt2 hr
    · omega
  intro fuel
  induction fuel with
  | zero =>
    intro k listed a w hk hf hsz hl h
    refine ⟨List.eq_nil_iff_forall_not_mem.2 fun i hi => ?_, ?_⟩
    · have := nodep k i listed hk hsz hl hi
      obtain ⟨_, o, ho, _⟩ := mem_ready.1 hi
      have : i < l.length := (List.getElem?_eq_some_iff.1 (show l[i]? = some o by simpa using ho)).1
      omega
    · rw [List.drop_of_length_le (by omega)] at h; exact h
  | succ fuel ih =>
    intro k listed a w hk hf hsz hl h
    have hkl : k < l.length := by omega
    have hko : l[k]? = some l[k] := List.getElem?_eq_getElem hkl
    refine ⟨fun h0 => ?_, fun i hi => ?_⟩
    · exfalso
      have : k ∈ Region.ready .any l.toArray listed := by
        refine mem_ready.2 ⟨?_, l[k], by simp, fun e he hb => ?_⟩
        · cases hg : listed.getD k true with
          | false => rfl
          | true => exact absurd ((hl k hkl).1 hg) (Nat.lt_irrefl _)
        · have hek := sh.back k _ hko e he hb
          have := (hl e.on (by omega)).2 hek
          have hs : e.on < listed.size := by omega
          simpa [hs] using this
      rw [h0] at this; cases this
    · have hik := nodep k i listed hk hsz hl hi
      subst hik
      rw [List.drop_eq_getElem_cons hkl] at h
      have h' : wpOp Try.prog l.toArray Q i (wpList Try.prog l.toArray Q (l.drop (i + 1))) a w := by
        unfold wpOp
        rw [show l.toArray[i]? = some l[i] by simp]
        exact h
      refine wpOp_mono (fun a' w' h1 => ih (i + 1) _ a' w' (by omega) (by omega) (by simp [hsz]) ?_ h1) h'
      intro j hj
      by_cases hji : j = i
      · subst hji
        have hs : j < listed.size := by omega
        simp [hs]
      · rw [getD_set_ne true (fun e => hji e.symm), hl j hj]; omega

/-- The store into a new variable of the region's own, whole. -/
def StoreOp (o : Oper) (A : Act) (b : Nat) (c : Array Value) (old : Array Value × TypeId) : Prop :=
  o.guard = none ∧ o.dst = none ∧ ∃ t p x n, o.op = .store t p x ∧ RowT t n ∧ A.eval p = .pointer (some ⟨b, 0, none⟩) ∧ A.eval x = .agg c ∧ c.size = n ∧ old.1.size = n ∧ c.all (·.oneCell') = true

theorem StoreOp.wpOp {ops : Array Oper} {Q : Exit → Act → World → Prop} {i : Nat} {o : Oper} {a A : Act} {w : World} {b : Nat} {c : Array Value} {old : Array Value × TypeId} {K : Act → World → Prop}
    (hi : ops[i]? = some o) (he : execOp a.eval o = execOp A.eval o) (h : StoreOp o A b c old) (hb : w.heap[b]? = some (.cells old.1 old.2 (0, 0))) (hK : K a (w.setRow b c)) : wpOp Try.prog ops Q i K a w := by
  obtain ⟨hg, hd, t, p, x, n, ho, hr, hp, hx, hn, hn', h1⟩ := h
  unfold Go.wpOp
  simp only [hi]
  rw [if_pos (by simp [Region.wanted, hg])]
  refine .inl ?_
  unfold Oper.wp
  rw [he]
  have e : (execOp A.eval o).run Try.prog w = .ok .skip (w.setRow b c) := by
    unfold execOp
    simp only [ho, hp, hx, Instr.storeAt, Instr.sureAddr, Sem.run_bind, Sem.run_pure, Result.andThen_ok, run_storeVar_row w b old.2 t old.1 c hb (by rw [hr.size, hn]) (by omega) h1]
  rw [e]
  show K (a.put o.dst undef) _
  rw [hd]
  exact hK

/-- What the new variables hold, the store having come up or not. -/
def Lx (L : List (Array Value × TypeId)) (q0 : Nat) (c0 : Array Value) (b : Bool) : List (Array Value × TypeId) := if b then L.set q0 (c0, (L.getD q0 (#[], 0)).2) else L
theorem Lx_len (L : List (Array Value × TypeId)) (q0 : Nat) (c0 : Array Value) (b : Bool) : (Lx L q0 c0 b).length = L.length := by
  unfold Lx; split <;> simp
theorem Lx_ne {L : List (Array Value × TypeId)} {q0 q : Nat} {c0 : Array Value} {b : Bool} (h : b = true → q ≠ q0) : (Lx L q0 c0 b).getD q (#[], 0) = L.getD q (#[], 0) := by
  unfold Lx
  split
  · rename_i hb
    simp [List.getD_eq_getElem?_getD, List.getElem?_set_ne (fun e => h hb e.symm)]
  · rfl

theorem wpAny_preS {n1 q0 : Nat} {c0 : Array Value} {L : List (Array Value × TypeId)} (hq0 : q0 < L.length) (sh : ShapeS l n1 L.length) (hn : n1 + L.length + 1 ≤ l.length) {W : Base} {bs : List Blk} {a0 : Act} {v : Nat → Value}
    (hy : ∀ i o, i < n1 → l[i]? = some o → ∀ w, Has W w bs → Yld l.toArray o (accL l v a0 i) w (v i))
    (hN : ∀ (q : Nat) (o : Oper) (c : Array Value × TypeId), l[n1 + q]? = some o → L[q]? = some c → NewOp o (accL l v a0 n1) c.1 c.2)
    (hdn : dstOf l (n1 + L.length) = none) (hdq : depB l.toArray (n1 + L.length) (n1 + q0) = true)
    (hS : ∀ (β : Nat → Nat) (o : Oper), l[n1 + L.length]? = some o → StoreOp o (accL l (valOf n1 v β) a0 (n1 + L.length)) (β q0) c0 (L.getD q0 (#[], 0)))
    (hfin : ∀ β w, Has W w (nbOf (Lx L q0 c0 true) β ++ bs) → wpList Try.prog l.toArray Q (l.drop (n1 + L.length + 1)) (accL l (valOf n1 v β) a0 (n1 + L.length)) w) :
    ∀ (fuel : Nat) (listed : Array Bool) (a : Act) (w : World) (β : Nat → Nat), listed.size = l.length → (List.range l.length).countP (fun i => !listed.getD i true) = fuel →
      (∀ i j, i < l.length → j < l.length → listed.getD i true = true → depB l.toArray i j = true → listed.getD j true = true) →
      (∀ i, i < l.length → n1 + L.length + 1 ≤ i → listed.getD i true = false) → (∃ i, i < n1 + L.length + 1 ∧ listed.getD i true = false) →
      Chr l (valOf n1 v β) (fun i => i < n1 + L.length + 1 ∧ listed.getD i true = true) a0 a → Has W w bs → News W w bs (Lx L q0 c0 (listed.getD (n1 + L.length) true)) β (fun q => listed.getD (n1 + q) true = true) →
      wpAny Try.prog .any l.toArray Q fuel listed a w := by
  have hdist : ∀ i j t, i < n1 + L.length + 1 → j < n1 + L.length + 1 → dstOf l i = some t → dstOf l j = some t → i = j := sh.dist
  intro fuel
  induction fuel with
  | zero =>
    intro listed a w β hsz hc hcl htl hex hchr hH hNews
    obtain ⟨i, hi, hu⟩ := hex
    have hm : i ∈ List.range l.length := List.mem_range.2 (by omega)
    have := List.countP_eq_zero.1 hc i hm
    simp only [hu] at this
    exact absurd rfl this
  | succ fuel ih =>
    intro listed a w β hsz hc hcl htl hex hchr hH hNews
    refine ⟨fun h0 => ?_, fun i hi => ?_⟩
    · -- the least that has not come up may come up
      exfalso
      obtain ⟨i, hi, hu⟩ := hex
      have : ∀ m, m < n1 + L.length + 1 → listed.getD m true = false → False := by
        intro m
        induction m using Nat.strongRecOn with
        | ind m ihm =>
          intro hm hum
          have hml : m < l.length := by omega
          have hmr : m ∈ Region.ready .any l.toArray listed := by
            refine mem_ready.2 ⟨hum, l[m], by simp, fun e he hb => ?_⟩
            have hem := sh.back m _ (List.getElem?_eq_getElem hml) e he hb
            have hs : e.on < listed.size := by omega
            cases hg : listed.getD e.on true with
            | true => simpa [hs] using hg
            | false => exact (ihm e.on hem (by omega) hg).elim
          rw [h0] at hmr; cases hmr
      exact this i hi hu
    · obtain ⟨hun, o, ho, hall⟩ := mem_ready.1 hi
      have hol : l[i]? = some o := by simpa using ho
      have hil : i < l.length := (List.getElem?_eq_some_iff.1 hol).1
      have his : i < listed.size := by omega
      -- what it waits for has come up
      have hdep : ∀ j, j < l.length → depB l.toArray i j = true → listed.getD j true = true := by
        intro j hj hd
        obtain ⟨e, he, hb, hr⟩ := sh.dep i j o hol hj hd
        have hei := sh.back i o hol e he hb
        have hes : e.on < listed.size := by omega
        have h1 : listed.getD e.on true = true := by simpa [hes] using hall e he hb
        rcases hr with rfl | hr
        · exact h1
        · exact hcl e.on j (by omega) hj h1 hr
      have hin : i < n1 + L.length + 1 := by
        rcases Nat.lt_or_ge i (n1 + L.length + 1) with h | h
        · exact h
        · obtain ⟨j, hj, hju⟩ := hex
          have := hdep j (by omega) (sh.tail i j h hil (by omega))
          rw [this] at hju; cases hju
      -- whatever it looks at reads as in the text's order
      have hlook : i < n1 + L.length → ∀ k, k ≤ n1 → k ≤ i → (∀ j t, t ∈ o.looksAt l.toArray → dstOf l j = some t → j < k ∨ k = n1) → ∀ t ∈ o.looksAt l.toArray, a.tmps[t]? = (accL l v a0 k).tmps[t]? := by
        intro hiN k hk hki hlow t ht
        have hacc : Chr l (valOf n1 v β) (· < k) a0 (accL l v a0 k) := by
          have : accL l v a0 k = accL l (valOf n1 v β) a0 k := accL_congr fun j hj => by simp [valOf, show j < n1 by omega]
          rw [this]
          exact Chr.acc fun x y t' hxy hyk hdx hdy => by have := hdist x y t' (by omega) (by omega) hdx hdy; omega
        refine hchr.agree hacc ?_
        intro j _ hd
        obtain ⟨hj1, hjd⟩ := sh.looks i j o t hol hin ht hd
        have hjl : j < l.length := by omega
        have hj1 : j < n1 := by
          rcases hj1 with h | h
          · exact h
          · rcases hlow j t ht hd with h2 | h2 <;> omega
        refine ⟨⟨by omega, hdep j hjl hjd⟩, ?_⟩
        rcases hlow j t ht hd with h | h
        · exact h
        · omega
      have hlow : ∀ j t, t ∈ o.looksAt l.toArray → dstOf l j = some t → j < i := by
        intro j t ht hd
        obtain ⟨_, hjd⟩ := sh.looks i j o t hol hin ht hd
        have hgen : ∀ m, m < l.length → ∀ j, j < l.length → depB l.toArray m j = true → j < m := by
          intro m
          induction m using Nat.strongRecOn with
          | ind m ihm =>
            intro hm j hj hd
            obtain ⟨e, he, hb, hr⟩ := sh.dep m j _ (List.getElem?_eq_getElem hm) hj hd
            have hem := sh.back m _ (List.getElem?_eq_getElem hm) e he hb
            rcases hr with rfl | hr
            · exact hem
            · have := ihm e.on hem (by omega) j hj hr; omega
        have hjl : j < l.length := by
          unfold dstOf at hd
          cases hj : l[j]? with
          | none => simp [hj] at hd
          | some o' => exact (List.getElem?_eq_some_iff.1 hj).1
        exact hgen i hil j hjl hjd
      -- the rest, whatever block it took
      have hrest : ∀ (β' : Nat → Nat) (w' : World), (∀ q, q < L.length → listed.getD (n1 + q) true = true → β' q = β q) → Has W w' bs →
          News W w' bs (Lx L q0 c0 ((listed.setIfInBounds i true).getD (n1 + L.length) true)) β' (fun q => (listed.setIfInBounds i true).getD (n1 + q) true = true) →
          wpAny Try.prog .any l.toArray Q fuel (listed.setIfInBounds i true) (a.put (dstOf l i) (valOf n1 v β' i)) w' := by
        intro β' w' hβ hH' hNews'
        have hval : ∀ j t, (j < n1 + L.length + 1 ∧ listed.getD j true = true) → dstOf l j = some t → valOf n1 v β j = valOf n1 v β' j := by
          intro j t hj hd
          have hjN : j ≠ n1 + L.length := fun e => by rw [e, hdn] at hd; cases hd
          unfold valOf
          split
          · rfl
          · rw [hβ (j - n1) (by omega) (by rw [show n1 + (j - n1) = j by omega]; exact hj.2)]
        have hchr' : Chr l (valOf n1 v β') (fun j => j < n1 + L.length + 1 ∧ listed.getD j true = true) a0 a :=
          ⟨hchr.size, hchr.defers, fun j t hj hd hl => by rw [hchr.val j t hj hd hl, hval j t hj hd], hchr.old⟩
        have hiff : ∀ j, (j < n1 + L.length + 1 ∧ (listed.setIfInBounds i true).getD j true = true) ↔ (j < n1 + L.length + 1 ∧ listed.getD j true = true) ∨ j = i := by
          intro j
          by_cases hji : j = i
          · subst hji; simp [his, hin]
          · rw [getD_set_ne true (fun e => hji e.symm)]; simp [hji]
        have hchr2 := hchr'.put i hiff (fun j t hj hdj hdi => by
          have := hdist j i t hj.1 hin hdj hdi
          subst this
          rw [hun] at hj; cases hj.2)
        have hsz' : (listed.setIfInBounds i true).size = l.length := by simp [hsz]
        have hc' : (List.range l.length).countP (fun j => !(listed.setIfInBounds i true).getD j true) = fuel := by
          have := countP_turn (p := fun j => !listed.getD j true) (q := fun j => !(listed.setIfInBounds i true).getD j true) (i := i) (by simp only [hun]; rfl) (by simp [his])
            (fun j hj => by simp only [getD_set_ne true (fun e => hj e.symm)]) hil
          omega
        have htl' : ∀ j, j < l.length → n1 + L.length + 1 ≤ j → (listed.setIfInBounds i true).getD j true = false := by
          intro j hj hge
          rw [getD_set_ne true (by omega)]; exact htl j hj hge
        by_cases hmore : ∃ j, j < n1 + L.length + 1 ∧ (listed.setIfInBounds i true).getD j true = false
        · refine ih _ _ w' β' hsz' hc' ?_ htl' hmore hchr2 hH' hNews'
          intro x y hx hy' hxl hd
          by_cases hxi : x = i
          · subst hxi
            have := hdep y hy' hd
            by_cases hyx : y = x
            · subst hyx; simp [his]
            · rw [getD_set_ne true (fun e => hyx e.symm)]; exact this
          · rw [getD_set_ne true (fun e => hxi e.symm)] at hxl
            have := hcl x y hx hy' hxl hd
            by_cases hyi : y = i
            · subst hyi; simp [his]
            · rw [getD_set_ne true (fun e => hyi e.symm)]; exact this
        · have hallup : ∀ j, j < n1 + L.length + 1 → (listed.setIfInBounds i true).getD j true = true := by
            intro j hj
            cases hg : (listed.setIfInBounds i true).getD j true with
            | true => rfl
            | false => exact absurd ⟨j, hj, hg⟩ hmore
          have hacc : Chr l (valOf n1 v β') (· < n1 + L.length + 1) a0 (accL l (valOf n1 v β') a0 (n1 + L.length + 1)) :=
            Chr.acc fun x y t' hxy hyk hdx hdy => by have := hdist x y t' (by omega) (by omega) hdx hdy; omega
          have heq : a.put (dstOf l i) (valOf n1 v β' i) = accL l (valOf n1 v β') a0 (n1 + L.length + 1) := by
            refine Chr.ext (S := (· < n1 + L.length + 1)) ⟨hchr2.size, hchr2.defers, fun j t hj => hchr2.val j t ⟨hj, hallup j hj⟩, fun t ht => hchr2.old t fun j hj => ht j hj.1⟩ hacc
          rw [heq]
          have hcount : fuel = l.length - (n1 + L.length + 1) := by
            have e : (List.range l.length).countP (fun j => !(listed.setIfInBounds i true).getD j true) = (List.range l.length).countP (fun j => decide (n1 + L.length + 1 ≤ j)) := by
              refine List.countP_congr fun j hj => ?_
              have hj' := List.mem_range.1 hj
              rcases Nat.lt_or_ge j (n1 + L.length + 1) with h | h
              · simp only [hallup j h]; simp; omega
              · simp only [htl' j hj' h]; simp; omega
            rw [hc'] at e
            rw [e]
            have : ∀ m k, (List.range (k + m)).countP (fun j => decide (k ≤ j)) = m := by
              intro m
              induction m with
              | zero =>
                intro k
                rw [List.countP_eq_zero]
                intro j hj
                have := List.mem_range.1 hj
                simp; omega
              | succ m ihm =>
                intro k
                rw [← Nat.add_assoc, List.range_succ, List.countP_append, ihm k]
                simp
            have h1 := this (l.length - (n1 + L.length + 1)) (n1 + L.length + 1)
            rwa [show n1 + L.length + 1 + (l.length - (n1 + L.length + 1)) = l.length by omega] at h1
          have hup := hallup (n1 + L.length) (by omega)
          rw [hup] at hNews'
          have hl2 := Lx_len L q0 c0 true
          refine wpAny_tailS sh fuel (n1 + L.length + 1) _ _ w' (Nat.le_refl _) (by omega) hsz' ?_ (by
            rw [accL, hdn]
            exact hfin β' w' (has_news hH' ⟨fun q hq _ => hNews'.at_ q hq (hallup _ (by omega)), fun q r hq hr _ _ hne => hNews'.ne q r hq hr (hallup _ (by omega)) (hallup _ (by omega)) hne⟩))
          intro j hj
          rcases Nat.lt_or_ge j (n1 + L.length + 1) with h | h
          · simp only [hallup j h, h]
          · simp only [htl' j hj h]; simp; omega
      have hsel : ∀ cs b, o.op ≠ .select cs b := fun cs b => sh.nosel i o cs b hol
      have hdo : o.dst = dstOf l i := by simp [dstOf, hol]
      have hl2 : ∀ b, (Lx L q0 c0 b).length = L.length := Lx_len L q0 c0
      by_cases hi1 : i < n1
      · obtain ⟨he, hw⟩ := alike_of_looks (a2 := accL l v a0 i) hsel (hlook (by omega) i (by omega) (Nat.le_refl _) (fun j t ht hd => .inl (hlow j t ht hd)))
        refine (hy i o hi1 hol w hH).wpOp (by simpa using hol) hw he ?_
        intro w' hb
        have hH' := hH.call hb
        have := hrest β w' (fun _ _ _ => rfl) hH' (by
          rw [getD_set_ne true (show n1 + L.length ≠ i by omega).symm]
          exact ⟨fun q hq hs => (hNews.below hb).at_ q hq (by rw [hl2] at hq; rwa [getD_set_ne true (by omega)] at hs),
            fun q r hq hr hs hs' hne => hNews.ne q r hq hr (by rw [hl2] at hq; rwa [getD_set_ne true (by omega)] at hs) (by rw [hl2] at hr; rwa [getD_set_ne true (by omega)] at hs') hne⟩)
        rw [hdo]
        simpa [valOf, hi1] using this
      · by_cases hiN : i = n1 + L.length
        · -- the store
          subst hiN
          have hq1 : listed.getD (n1 + q0) true = true := hdep (n1 + q0) (by omega) hdq
          have hacc : Chr l (valOf n1 v β) (· < n1 + L.length) a0 (accL l (valOf n1 v β) a0 (n1 + L.length)) :=
            Chr.acc fun x y t' hxy hyk hdx hdy => by have := hdist x y t' (by omega) (by omega) hdx hdy; omega
          have hag : ∀ t ∈ o.looksAt l.toArray, a.tmps[t]? = (accL l (valOf n1 v β) a0 (n1 + L.length)).tmps[t]? := by
            intro t ht
            refine hchr.agree hacc ?_
            intro j _ hd
            obtain ⟨hj1, hjd⟩ := sh.looks _ j o t hol hin ht hd
            have hj2 : j < n1 + L.length := by rcases hj1 with h | h <;> omega
            exact ⟨⟨by omega, hdep j (by omega) hjd⟩, hj2⟩
          obtain ⟨he, _⟩ := alike_of_looks hsel hag
          rw [hun] at hNews
          have hb0 := hNews.at_ q0 (by rw [hl2]; exact hq0) hq1
          have hLf : Lx L q0 c0 false = L := rfl
          rw [hLf] at hNews hb0
          refine (hS β o hol).wpOp (by simpa using hol) he hb0.2.1 ?_
          have hH' : Has W (w.setRow (β q0) c0) bs := ⟨W.row _ _ _ hb0.1 hH.good, fun x hx => ⟨(hH.blk x hx).1, by rw [setRow_other _ _ _ _ (hb0.2.2 x hx)]; exact (hH.blk x hx).2⟩, hH.nd⟩
          have hrow := setRow_heap w (β q0) (L.getD q0 (#[], 0)).1 c0 (L.getD q0 (#[], 0)).2 (0, 0) hb0.2.1
          have := hrest β _ (fun _ _ _ => rfl) hH' (by
            have e1 : (listed.setIfInBounds (n1 + L.length) true).getD (n1 + L.length) true = true := by simp [his]
            rw [e1]
            refine ⟨fun q hq hs => ?_, fun q r hq hr hs hs' hne => hNews.ne q r (by rw [hl2] at hq; exact hq) (by rw [hl2] at hr; exact hr) (by rw [hl2] at hq; rwa [getD_set_ne true (by omega)] at hs) (by rw [hl2] at hr; rwa [getD_set_ne true (by omega)] at hs') hne⟩
            rw [hl2] at hq
            rw [getD_set_ne true (by omega)] at hs
            obtain ⟨g1, g2, g3⟩ := hNews.at_ q hq hs
            by_cases hqq : q = q0
            · subst hqq
              refine ⟨g1, ?_, g3⟩
              have e2 : (Lx L q c0 true).getD q (#[], 0) = (c0, (L.getD q (#[], 0)).2) := by simp [Lx, List.getD_eq_getElem?_getD, hq]
              rw [e2]
              exact hrow
            · refine ⟨g1, ?_, g3⟩
              rw [Lx_ne (fun _ => hqq), setRow_other _ _ _ _ (hNews.ne q q0 hq hq0 hs hq1 hqq)]
              exact g2)
          rw [hdn] at this
          exact this
        · obtain ⟨q, rfl⟩ : ∃ q, i = n1 + q := ⟨i - n1, by omega⟩
          have hq : q < L.length := by omega
          obtain ⟨he, _⟩ := alike_of_looks (a2 := accL l v a0 n1) hsel (hlook (by omega) n1 (Nat.le_refl _) (by omega) (fun j t ht hd => .inr rfl))
          refine (hN q o L[q] hol (List.getElem?_eq_getElem hq)).wpOp (by simpa using hol) he ?_
          have hH' : Has W (w.alloc (.cells L[q].1 L[q].2)) bs := (hH.alloc _ _).sub (List.sublist_cons_self _ _)
          have hbel : Below w.heap.size w (w.alloc (.cells L[q].1 L[q].2)) := (Below.refl _ _).alloc (Nat.le_refl _) _
          have hnq : ∀ r, r < L.length → r ≠ q → ((listed.setIfInBounds (n1 + q) true).getD (n1 + r) true = true ↔ listed.getD (n1 + r) true = true) := fun r _ hr => by rw [getD_set_ne true (by omega)]
          have hLq : (Lx L q0 c0 (listed.getD (n1 + L.length) true)).getD q (#[], 0) = L.getD q (#[], 0) := Lx_ne fun hb e => by
            subst e
            have := hcl (n1 + L.length) (n1 + q) (by omega) (by omega) hb hdq
            rw [hun] at this; cases this
          have := hrest (fun r => if r = q then w.heap.size else β r) _ (fun r hr hs => by
              have : r ≠ q := fun e => by subst e; rw [hun] at hs; cases hs
              simp [this]) hH' (by
            rw [getD_set_ne true (show n1 + L.length ≠ n1 + q by omega).symm]
            refine ⟨fun r hr hs => ?_, fun r s hr hs hur hus hne => ?_⟩
            · rw [hl2] at hr
              by_cases hrq : r = q
              · subst hrq
                refine ⟨by simp only [if_true]; exact W.new _ _ hH.good (Nat.le_refl _), ?_, fun x hx => ?_⟩
                · rw [hLq]; simp only [if_true]; rw [heap_alloc_new]; simp [hr]
                · simp only [if_true]; exact Nat.ne_of_lt (hH.lt hx)
              · simp only [hrq, if_false]
                exact (hNews.below hbel).at_ r (by rw [hl2]; exact hr) ((hnq r hr hrq).1 hs)
            · rw [hl2] at hr hs
              by_cases hrq : r = q
              · subst hrq
                have hsr : s ≠ r := fun e => hne e.symm
                simp only [if_true, hsr, if_false]
                have := (hNews.at_ s (by rw [hl2]; exact hs) ((hnq s hs hsr).1 hus)).2.1
                exact Nat.ne_of_gt (Array.getElem?_eq_some_iff.1 this).1
              · by_cases hsq : s = q
                · subst hsq
                  simp only [if_true, hrq, if_false]
                  have := (hNews.at_ r (by rw [hl2]; exact hr) ((hnq r hr hrq).1 hur)).2.1
                  exact Nat.ne_of_lt (Array.getElem?_eq_some_iff.1 this).1
                · simp only [hrq, hsq, if_false]
                  exact hNews.ne r s (by rw [hl2]; exact hr) (by rw [hl2]; exact hs) ((hnq r hr hrq).1 hur) ((hnq s hs hsq).1 hus) hne)
          rw [hdo]
          simpa [valOf, hi1] using this

/-- The floating store, then the walk's rest. -/
def wpS (W : Base) (bs : List Blk) (q0 : Nat) (c0 : Array Value) (T0 : TypeId) (old : Array Value × TypeId) (k : List Oper → Act → World → Prop) (os : List Oper) (F : Act) (nb : List Blk) : Prop :=
  match os with
  | [] => False
  | o :: os => StoreOp o F (nb.getD q0 (0, #[], 0)).1 c0 old ∧ ∀ w', Has W w' (nb.set q0 ((nb.getD q0 (0, #[], 0)).1, c0, T0) ++ bs) → k os F w'

theorem nbOf_getD (L : List (Array Value × TypeId)) (β : Nat → Nat) {q : Nat} (h : q < L.length) : (nbOf L β).getD q (0, #[], 0) = (β q, (L.getD q (#[], 0)).1, (L.getD q (#[], 0)).2) := by
  simp [nbOf, List.getD_eq_getElem?_getD, h]
theorem nbOf_set (L : List (Array Value × TypeId)) (β : Nat → Nat) {q : Nat} (h : q < L.length) (c : Array Value) (T : TypeId) : (nbOf L β).set q (β q, c, T) = nbOf (L.set q (c, T)) β := by
  apply List.ext_getElem?
  intro j
  by_cases hj : j < L.length
  · by_cases hjq : q = j
    · subst hjq
      simp [nbOf, List.getElem?_set, hj, List.getD_eq_getElem?_getD]
    · simp [nbOf, List.getElem?_set, hj, hjq, List.getD_eq_getElem?_getD]
  · simp [nbOf, List.getElem?_set, hj]

/-- **A REGION THAT DRAWS ITS ORDER, ONE STORE INTO A NEW VARIABLE AMONG THE OTHERS, IN ONE WALK.** -/
theorem wp_drawS {id : Nat} {a : Act} {w : World} {W : Base} {bs : List Blk} (n1 : Nat) (L : List (Array Value × TypeId)) (q0 : Nat) (c0 : Array Value) (hs : shapeOkS l.toArray n1 L.length q0 = true) (hH : Has W w bs)
    (h : wpD l.toArray W bs n1 (fun os A => wpN A L (wpS W bs q0 c0 (L.getD q0 (#[], 0)).2 (L.getD q0 (#[], 0)) (fun os F w' => wpList Try.prog l.toArray Q os F w')) os A []) l a) :
    (Code.region id l.toArray true).wp Try.prog Q a w := by
  obtain ⟨sh, hq0, hdn, hdq⟩ := shape_ofS hs
  obtain ⟨hl1, v, hy, h2⟩ := wpD_out h
  obtain ⟨hl2, hN, h3⟩ := wpN_out h2
  have hn0 : n1 + L.length ≤ l.length := by simp at hl2; omega
  have hacc : ∀ β, accL (l.drop n1) (fun i => .pointer (some ⟨β i, 0, none⟩)) (accL l v a n1) L.length = accL l (valOf n1 v β) a (n1 + L.length) := by
    intro β
    have e1 : accL l (valOf n1 v β) a n1 = accL l v a n1 := accL_congr fun i hi => by simp [valOf, hi]
    rw [accL_drop, e1]
    have e2 : (fun i => valOf n1 v β (n1 + i)) = (fun i => Value.pointer (some ⟨β i, 0, none⟩)) := by
      funext i; simp only [valOf]; rw [if_neg (by omega), show n1 + i - n1 = i by omega]
    rw [e2]
  have hn : n1 + L.length + 1 ≤ l.length := by
    have := h3 (fun _ => 0)
    rw [List.drop_drop] at this
    rcases Nat.lt_or_ge (n1 + L.length) l.length with h | h
    · exact h
    · rw [List.drop_of_length_le h] at this
      exact this.elim
  have hst : ∀ β, StoreOp l[n1 + L.length] (accL l (valOf n1 v β) a (n1 + L.length)) (β q0) c0 (L.getD q0 (#[], 0)) ∧
      ∀ w, Has W w (nbOf (Lx L q0 c0 true) β ++ bs) → wpList Try.prog l.toArray Q (l.drop (n1 + L.length + 1)) (accL l (valOf n1 v β) a (n1 + L.length)) w := by
    intro β
    have := h3 β
    rw [List.drop_drop, List.drop_eq_getElem_cons (by omega), hacc, List.nil_append] at this
    obtain ⟨g1, g2⟩ := this
    rw [nbOf_getD L β hq0] at g1 g2
    refine ⟨g1, fun w hw => g2 w ?_⟩
    rw [nbOf_set L β hq0]
    exact hw
  refine wp_region_any (by kernel_rfl) ?_
  have hH' : Has W { w with drawn := w.drawn + 1 } bs := hH.drew
  have hrep : ∀ i, i < l.length → (Array.replicate l.toArray.size false).getD i true = false := fun i hi => by simp [hi]
  have := wpAny_preS (Q := Q) hq0 sh hn hy (fun q o c ho hc => hN q o c (by simpa using ho) hc) hdn hdq (fun β o ho => by
      have e : l[n1 + L.length] = o := by
        have := List.getElem?_eq_getElem (show n1 + L.length < l.length by omega)
        rw [this] at ho; exact Option.some.inj ho
      rw [← e]; exact (hst β).1) (fun β => (hst β).2) l.length (Array.replicate l.toArray.size false) a { w with drawn := w.drawn + 1 } (fun _ => 0) (by simp)
    (by
      have : (List.range l.length).countP (fun i => !(Array.replicate l.toArray.size false).getD i true) = (List.range l.length).length := List.countP_eq_length.2 fun i hi => by simp only [hrep i (List.mem_range.1 hi)]; rfl
      simpa using this)
    (fun i j hi _ hl _ => by rw [hrep i hi] at hl; cases hl) (fun i hi _ => hrep i hi) ⟨0, by omega, hrep 0 (by omega)⟩
    (Chr.nil _ _ _ fun i hi => by have := hrep i (by omega); rw [this] at hi; cases hi.2) hH'
    ⟨fun q hq hs => (by rw [Lx_len] at hq; rw [hrep (n1 + q) (by omega)] at hs; cases hs), fun q r hq hr hs => (by rw [Lx_len] at hq; rw [hrep (n1 + q) (by omega)] at hs; cases hs)⟩
  simpa using this

theorem ws_storeC {W : Base} {bs : List Blk} {q0 : Nat} {T0 : TypeId} {old : Array Value × TypeId} {K : List Oper → Act → World → Prop} {o : Oper} {os : List Oper} {F : Act} {nb : List Blk} {t : TypeId} {p x : Operand} {n : Nat} {k : IntKind} {m : List Nat}
    (hg : o.guard = none) (hd : o.dst = none) (ho : o.op = .store t p x) [hr : RowT t n] (hp : F.eval p = .pointer (some ⟨(nb.getD q0 (0, #[], 0)).1, 0, none⟩)) (hx : F.eval x = .agg (C k m)) (hl : m.length = n) (hold : old.1.size = n)
    (h : ∀ w', Has W w' (nb.set q0 ((nb.getD q0 (0, #[], 0)).1, C k m, T0) ++ bs) → K os F w') : wpS W bs q0 (C k m) T0 old K (o :: os) F nb :=
  ⟨⟨hg, hd, t, p, x, n, ho, hr, hp, hx, by rw [C_size, hl], hold, C_one _ _⟩, h⟩
end draw
end Go.Proofs.Ytmbbdblmengdhaa
