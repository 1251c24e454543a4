/- A region that draws its order and holds one call that hands back a new block's address (a maker): one walk in the text's order. -/
import Derived.Test.YtmbbdblmengdhaaB1
set_option linter.unusedSimpArgs false
set_option linter.unusedVariables false
namespace Go.Proofs.Ytmbbdblmengdhaa
open Go.RowKit

/-- A call that hands back mkv b, b a new block of its own that holds cs. -/
def MakerOp (ops : Array Oper) (o : Oper) (A : Act) (W : Base) (bs : List Blk) (mkv : Nat → Value) (cs : Array Value) (T : TypeId) : Prop :=
  Region.wanted o (yielded ops A.tmps) = true ∧ ∀ w, Has W w bs → ∃ f args, (execOp A.eval o).run Try.prog w = .ok (.enter f args) w ∧
    Calls Try.prog f args w fun e w' => ∃ b, e = .returned (mkv b) ∧ Has W w' ((b, cs, T) :: bs) ∧ Below w.heap.size w w' ∧ w.heap.size ≤ b

theorem MakerOp.wpOp {ops : Array Oper} {Q : Exit → Act → World → Prop} {i : Nat} {o : Oper} {a A : Act} {W : Base} {w : World} {bs : List Blk} {mkv : Nat → Value} {cs : Array Value} {T : TypeId} {K : Act → World → Prop}
    (hi : ops[i]? = some o) (hw : Region.wanted o (yielded ops a.tmps) = Region.wanted o (yielded ops A.tmps)) (he : execOp a.eval o = execOp A.eval o)
    (h : MakerOp ops o A W bs mkv cs T) (hH : Has W w bs) (hK : ∀ b w', Has W w' ((b, cs, T) :: bs) → Below w.heap.size w w' → w.heap.size ≤ b → K (a.put o.dst (mkv b)) w') : wpOp Try.prog ops Q i K a w := by
  obtain ⟨h1, h2⟩ := h
  obtain ⟨f, args, h3, h4⟩ := h2 w hH
  unfold Go.wpOp
  simp only [hi]
  rw [if_pos (by rw [hw]; exact h1)]
  refine .inl ?_
  unfold Oper.wp
  rw [he, h3]
  refine h4.mono ?_
  rintro e w' ⟨b, rfl, g1, g2, g3⟩
  exact hK _ _ g1 g2 g3

/-- The walk behind the maker: each value is named ahead; what hangs on the maker may know its block. -/
def wpE (ops : Array Oper) (W : Base) (bs : List Blk) (bm : Blk) (m : Nat) : Nat → List Value → (List Oper → Act → Prop) → List Oper → Act → Prop
  | _, [], k, os, A => k os A
  | _, _ :: _, _, [], _ => False
  | i, v :: vs, k, o :: os, A => ((depB ops i m = true ∧ ∀ w, Has W w (bm :: bs) → Yld ops o A w v) ∨ ∀ w, Has W w bs → Yld ops o A w v) ∧ wpE ops W bs bm m (i + 1) vs k os (A.put o.dst v)

theorem wpE_out {ops : Array Oper} {W : Base} {bs : List Blk} {bm : Blk} {m : Nat} {k : List Oper → Act → Prop} : ∀ {vs : List Value} {i : Nat} {os : List Oper} {A : Act}, wpE ops W bs bm m i vs k os A →
    vs.length ≤ os.length ∧ (∀ j o, j < vs.length → os[j]? = some o → (depB ops (i + j) m = true ∧ ∀ w, Has W w (bm :: bs) → Yld ops o (accL os (fun j => vs.getD j undef) A j) w (vs.getD j undef)) ∨ ∀ w, Has W w bs → Yld ops o (accL os (fun j => vs.getD j undef) A j) w (vs.getD j undef)) ∧
    k (os.drop vs.length) (accL os (fun j => vs.getD j undef) A vs.length)
  | [], i, os, A, h => ⟨Nat.zero_le _, fun _ _ hi => absurd hi (Nat.not_lt_zero _), h⟩
  | _ :: _, i, [], A, h => h.elim
  | v0 :: vs, i, o :: os, A, h => by
    obtain ⟨hy, hr⟩ := h
    obtain ⟨hl, hv, hk⟩ := wpE_out hr
    refine ⟨by simp; exact hl, ?_, ?_⟩
    · intro j o' hj ho
      cases j with
      | zero => simp at ho; subst ho; exact hy
      | succ j =>
        rw [accL_cons]
        have := hv j o' (by simpa using hj) (by simpa using ho)
        rw [show i + 1 + j = i + (j + 1) by omega] at this
        exact this
    · rw [List.length_cons, accL_cons]; simpa using hk

section draw
variable {l : List Oper} {Q : Exit → Act → World → Prop}

/-- The values, the maker's block being b. -/
def vb (m : Nat) (mkv : Nat → Value) (v : Nat → Value) (b i : Nat) : Value := if i = m then mkv b else v i
/-- The own blocks, with the maker's block once it has come. -/
def bsM (c : Bool) (bm : Blk) (bs : List Blk) : List Blk := if c then bm :: bs else bs
theorem Has.bsM {W : Base} {w : World} {c : Bool} {bm : Blk} {bs : List Blk} (h : Has W w (bsM c bm bs)) : Has W w bs := by
  cases c with
  | true => exact Has.sub (bs := bm :: bs) h (List.sublist_cons_self _ _)
  | false => exact h

theorem wpAny_preM {n1 mi : Nat} {mkv : Nat → Value} {mcs : Array Value} {mT : TypeId} (hmi : mi < n1) {L : List (Array Value × TypeId)} (sh : Shape l n1 L.length) (hn : n1 + L.length ≤ l.length) {W : Base} {bs : List Blk} {a0 : Act} {v : Nat → Value} {om : Oper} (hom : l[mi]? = some om)
    (hmk : ∀ b, MakerOp l.toArray om (accL l (vb mi mkv v b) a0 mi) W bs mkv mcs mT)
    (hy : ∀ b i o, i < n1 → i ≠ mi → l[i]? = some o → (depB l.toArray i mi = true ∧ ∀ w, Has W w ((b, mcs, mT) :: bs) → Yld l.toArray o (accL l (vb mi mkv v b) a0 i) w (v i)) ∨ ∀ w, Has W w bs → Yld l.toArray o (accL l (vb mi mkv v b) a0 i) w (v i))
    (hN : ∀ (b q : Nat) (o : Oper) (c : Array Value × TypeId), l[n1 + q]? = some o → L[q]? = some c → NewOp o (accL l (vb mi mkv v b) a0 n1) c.1 c.2)
    (hfin : ∀ b β w, Has W w (nbOf L β ++ (b, mcs, mT) :: bs) → wpList Try.prog l.toArray Q (l.drop (n1 + L.length)) (accL l (valOf n1 (vb mi mkv v b) β) a0 (n1 + L.length)) w) :
    ∀ (fuel : Nat) (listed : Array Bool) (a : Act) (w : World) (b : Nat) (β : Nat → Nat), listed.size = l.length → (List.range l.length).countP (fun i => !listed.getD i true) = fuel →
      (∀ i j, i < l.length → j < l.length → listed.getD i true = true → depB l.toArray i j = true → listed.getD j true = true) →
      (∀ i, i < l.length → n1 + L.length ≤ i → listed.getD i true = false) → (∃ i, i < n1 + L.length ∧ listed.getD i true = false) →
      Chr l (valOf n1 (vb mi mkv v b) β) (fun i => i < n1 + L.length ∧ listed.getD i true = true) a0 a → Has W w (bsM (listed.getD mi true) (b, mcs, mT) bs) → News W w (bsM (listed.getD mi true) (b, mcs, mT) bs) L β (fun q => listed.getD (n1 + q) true = true) →
      wpAny Try.prog .any l.toArray Q fuel listed a w := by
  have hdist : ∀ i j t, i < n1 + L.length → j < n1 + L.length → dstOf l i = some t → dstOf l j = some t → i = j := sh.dist
  intro fuel
  induction fuel with
  | zero =>
    intro listed a w b β hsz hc hcl htl hex hchr hH hNews
    obtain ⟨i, hi, hu⟩ := hex
    have hm : i ∈ List.range l.length := List.mem_range.2 (by omega)
    have := List.countP_eq_zero.1 hc i hm
    simp only [hu] at this
    exact absurd rfl this
  | succ fuel ih =>
    intro listed a w b β hsz hc hcl htl hex hchr hH hNews
    refine ⟨fun h0 => ?_, fun i hi => ?_⟩
    · -- the least that has not come up may come up
      exfalso
      obtain ⟨i, hi, hu⟩ := hex
      have : ∀ m, m < n1 + L.length → listed.getD m true = false → False := by
        intro m
        induction m using Nat.strongRecOn with
        | ind m ihm =>
          intro hm hum
          have hml : m < l.length := by omega
          have hmr : m ∈ Region.ready .any l.toArray listed := by
            refine mem_ready.2 ⟨hum, l[m], by simp, fun e he hb => ?_⟩
            have hem := sh.back m _ (List.getElem?_eq_getElem hml) e he hb
            have hs : e.on < listed.size := by omega
            cases hg : listed.getD e.on true with
            | true => simpa [hs] using hg
            | false => exact (ihm e.on hem (by omega) hg).elim
          rw [h0] at hmr; cases hmr
      exact this i hi hu
    · obtain ⟨hun, o, ho, hall⟩ := mem_ready.1 hi
      have hol : l[i]? = some o := by simpa using ho
      have hil : i < l.length := (List.getElem?_eq_some_iff.1 hol).1
      have his : i < listed.size := by omega
      -- what it waits for has come up
      have hdep : ∀ j, j < l.length → depB l.toArray i j = true → listed.getD j true = true := by
        intro j hj hd
        obtain ⟨e, he, hb, hr⟩ := sh.dep i j o hol hj hd
        have hei := sh.back i o hol e he hb
        have hes : e.on < listed.size := by omega
        have h1 : listed.getD e.on true = true := by simpa [hes] using hall e he hb
        rcases hr with rfl | hr
        · exact h1
        · exact hcl e.on j (by omega) hj h1 hr
      have hin : i < n1 + L.length := by
        rcases Nat.lt_or_ge i (n1 + L.length) with h | h
        · exact h
        · obtain ⟨j, hj, hju⟩ := hex
          have := hdep j (by omega) (sh.tail i j h hil (by omega))
          rw [this] at hju; cases hju
      -- whatever it looks at reads as in the text's order
      have hlook : ∀ k, k ≤ n1 → k ≤ i → (∀ j t, t ∈ o.looksAt l.toArray → dstOf l j = some t → j < k ∨ k = n1) → ∀ t ∈ o.looksAt l.toArray, a.tmps[t]? = (accL l (vb mi mkv v b) a0 k).tmps[t]? := by
        intro k hk hki hlow t ht
        have hacc : Chr l (valOf n1 (vb mi mkv v b) β) (· < k) a0 (accL l (vb mi mkv v b) a0 k) := by
          have : accL l (vb mi mkv v b) a0 k = accL l (valOf n1 (vb mi mkv v b) β) a0 k := accL_congr fun j hj => by simp [valOf, show j < n1 by omega]
          rw [this]
          exact Chr.acc fun x y t' hxy hyk hdx hdy => by have := hdist x y t' (by omega) (by omega) hdx hdy; omega
        refine hchr.agree hacc ?_
        intro j _ hd
        obtain ⟨hj1, hjd⟩ := sh.looks i j o t hol hin ht hd
        have hjl : j < l.length := by omega
        refine ⟨⟨by omega, hdep j hjl hjd⟩, ?_⟩
        rcases hlow j t ht hd with h | h
        · exact h
        · omega
      have hlow : ∀ j t, t ∈ o.looksAt l.toArray → dstOf l j = some t → j < i := by
        intro j t ht hd
        obtain ⟨_, hjd⟩ := sh.looks i j o t hol hin ht hd
        have hgen : ∀ m, m < l.length → ∀ j, j < l.length → depB l.toArray m j = true → j < m := by
          intro m
          induction m using Nat.strongRecOn with
          | ind m ihm =>
            intro hm j hj hd
            obtain ⟨e, he, hb, hr⟩ := sh.dep m j _ (List.getElem?_eq_getElem hm) hj hd
            have hem := sh.back m _ (List.getElem?_eq_getElem hm) e he hb
            rcases hr with rfl | hr
            · exact hem
            · have := ihm e.on hem (by omega) j hj hr; omega
        have hjl : j < l.length := by
          unfold dstOf at hd
          cases hj : l[j]? with
          | none => simp [hj] at hd
          | some o' => exact (List.getElem?_eq_some_iff.1 hj).1
        exact hgen i hil j hjl hjd
      -- the rest, whatever block it took
      have hrest : ∀ (b' : Nat) (β' : Nat → Nat) (w' : World), (listed.getD mi true = true → b' = b) → (∀ q, q < L.length → listed.getD (n1 + q) true = true → β' q = β q) → Has W w' (bsM ((listed.setIfInBounds i true).getD mi true) (b', mcs, mT) bs) →
          News W w' (bsM ((listed.setIfInBounds i true).getD mi true) (b', mcs, mT) bs) L β' (fun q => (listed.setIfInBounds i true).getD (n1 + q) true = true) →
          wpAny Try.prog .any l.toArray Q fuel (listed.setIfInBounds i true) (a.put (dstOf l i) (valOf n1 (vb mi mkv v b') β' i)) w' := by
        intro b' β' w' hbb hβ hH' hNews'
        have hval : ∀ j, (j < n1 + L.length ∧ listed.getD j true = true) → valOf n1 (vb mi mkv v b) β j = valOf n1 (vb mi mkv v b') β' j := by
          intro j hj
          unfold valOf
          split
          · unfold vb
            split
            · rename_i e; rw [hbb (by rw [← e]; exact hj.2)]
            · rfl
          · rw [hβ (j - n1) (by omega) (by rw [show n1 + (j - n1) = j by omega]; exact hj.2)]
        have hchr' : Chr l (valOf n1 (vb mi mkv v b') β') (fun j => j < n1 + L.length ∧ listed.getD j true = true) a0 a :=
          ⟨hchr.size, hchr.defers, fun j t hj hd hl => by rw [hchr.val j t hj hd hl, hval j hj], hchr.old⟩
        have hiff : ∀ j, (j < n1 + L.length ∧ (listed.setIfInBounds i true).getD j true = true) ↔ (j < n1 + L.length ∧ listed.getD j true = true) ∨ j = i := by
          intro j
          by_cases hji : j = i
          · subst hji; simp [his, hin]
          · rw [getD_set_ne true (fun e => hji e.symm)]; simp [hji]
        have hchr2 := hchr'.put i hiff (fun j t hj hdj hdi => by
          have := hdist j i t hj.1 hin hdj hdi
          subst this
          rw [hun] at hj; cases hj.2)
        have hsz' : (listed.setIfInBounds i true).size = l.length := by simp [hsz]
        have hc' : (List.range l.length).countP (fun j => !(listed.setIfInBounds i true).getD j true) = fuel := by
          have := countP_turn (p := fun j => !listed.getD j true) (q := fun j => !(listed.setIfInBounds i true).getD j true) (i := i) (by simp only [hun]; rfl) (by simp [his])
            (fun j hj => by simp only [getD_set_ne true (fun e => hj e.symm)]) hil
          omega
        have htl' : ∀ j, j < l.length → n1 + L.length ≤ j → (listed.setIfInBounds i true).getD j true = false := by
          intro j hj hge
          rw [getD_set_ne true (by omega)]; exact htl j hj hge
        by_cases hmore : ∃ j, j < n1 + L.length ∧ (listed.setIfInBounds i true).getD j true = false
        · refine ih _ _ w' b' β' hsz' hc' ?_ htl' hmore hchr2 hH' hNews'
          intro x y hx hy' hxl hd
          by_cases hxi : x = i
          · subst hxi
            have := hdep y hy' hd
            by_cases hyx : y = x
            · subst hyx; simp [his]
            · rw [getD_set_ne true (fun e => hyx e.symm)]; exact this
          · rw [getD_set_ne true (fun e => hxi e.symm)] at hxl
            have := hcl x y hx hy' hxl hd
            by_cases hyi : y = i
            · subst hyi; simp [his]
            · rw [getD_set_ne true (fun e => hyi e.symm)]; exact this
        · have hallup : ∀ j, j < n1 + L.length → (listed.setIfInBounds i true).getD j true = true := by
            intro j hj
            cases hg : (listed.setIfInBounds i true).getD j true with
            | true => rfl
            | false => exact absurd ⟨j, hj, hg⟩ hmore
          have hacc : Chr l (valOf n1 (vb mi mkv v b') β') (· < n1 + L.length) a0 (accL l (valOf n1 (vb mi mkv v b') β') a0 (n1 + L.length)) :=
            Chr.acc fun x y t' hxy hyk hdx hdy => by have := hdist x y t' (by omega) (by omega) hdx hdy; omega
          have heq : a.put (dstOf l i) (valOf n1 (vb mi mkv v b') β' i) = accL l (valOf n1 (vb mi mkv v b') β') a0 (n1 + L.length) := by
            refine Chr.ext (S := (· < n1 + L.length)) ⟨hchr2.size, hchr2.defers, fun j t hj => hchr2.val j t ⟨hj, hallup j hj⟩, fun t ht => hchr2.old t fun j hj => ht j hj.1⟩ hacc
          rw [heq]
          have hcount : fuel = l.length - (n1 + L.length) := by
            have e : (List.range l.length).countP (fun j => !(listed.setIfInBounds i true).getD j true) = (List.range l.length).countP (fun j => decide (n1 + L.length ≤ j)) := by
              refine List.countP_congr fun j hj => ?_
              have hj' := List.mem_range.1 hj
              rcases Nat.lt_or_ge j (n1 + L.length) with h | h
              · simp only [hallup j h]; simp; omega
              · simp only [htl' j hj' h]; simp; omega
            rw [hc'] at e
            rw [e]
            have : ∀ m k, (List.range (k + m)).countP (fun j => decide (k ≤ j)) = m := by
              intro m
              induction m with
              | zero =>
                intro k
                rw [List.countP_eq_zero]
                intro j hj
                have := List.mem_range.1 hj
                simp; omega
              | succ m ihm =>
                intro k
                rw [← Nat.add_assoc, List.range_succ, List.countP_append, ihm k]
                simp
            have h1 := this (l.length - (n1 + L.length)) (n1 + L.length)
            rwa [show n1 + L.length + (l.length - (n1 + L.length)) = l.length by omega] at h1
          have hmt : (listed.setIfInBounds i true).getD mi true = true := hallup mi (by omega)
          rw [hmt] at hH' hNews'
          refine wpAny_tail sh fuel (n1 + L.length) _ _ w' (Nat.le_refl _) (by omega) hsz' ?_ (hfin b' β' w' (has_news hH' ⟨fun q hq _ => hNews'.at_ q hq (hallup _ (by omega)), fun q r hq hr _ _ hne => hNews'.ne q r hq hr (hallup _ (by omega)) (hallup _ (by omega)) hne⟩))
          intro j hj
          rcases Nat.lt_or_ge j (n1 + L.length) with h | h
          · simp only [hallup j h, h]
          · simp only [htl' j hj h]; simp; omega
      have hsel : ∀ cs b, o.op ≠ .select cs b := fun cs b => sh.nosel i o cs b hol
      have hdo : o.dst = dstOf l i := by simp [dstOf, hol]
      by_cases hi1 : i < n1
      · obtain ⟨he, hw⟩ := alike_of_looks (a2 := accL l (vb mi mkv v b) a0 i) hsel (hlook i (by omega) (Nat.le_refl _) (fun j t ht hd => .inl (hlow j t ht hd)))
        by_cases him : i = mi
        · subst him
          have hoe : o = om := by rw [hol] at hom; exact Option.some.inj hom
          subst hoe
          rw [hun] at hH hNews
          refine (hmk b).wpOp (by simpa using hol) hw he hH ?_
          intro b' w' hb' hbel hle
          have hst : (listed.setIfInBounds i true).getD i true = true := by simp [his]
          have := hrest b' β w' (fun e => by rw [hun] at e; cases e) (fun _ _ _ => rfl) (by rw [hst]; exact hb') (by
            rw [hst]
            refine ⟨fun q hq hs => ?_, fun q r hq hr hs hs' hne => hNews.ne q r hq hr (by rwa [getD_set_ne true (by omega)] at hs) (by rwa [getD_set_ne true (by omega)] at hs') hne⟩
            obtain ⟨k1, k2, k3⟩ := hNews.at_ q hq (by rwa [getD_set_ne true (by omega)] at hs)
            have hlt := (Array.getElem?_eq_some_iff.1 k2).1
            refine ⟨k1, by rw [hbel.block _ hlt]; exact k2, fun x hx => ?_⟩
            rcases List.mem_cons.1 hx with rfl | hx
            · exact fun e => by have e' : b' = β q := e; omega
            · exact k3 x hx)
          rw [hdo]
          simpa [valOf, hi1, vb] using this
        · have hst : (listed.setIfInBounds i true).getD mi true = listed.getD mi true := getD_set_ne true him
          have hyl : Yld l.toArray o (accL l (vb mi mkv v b) a0 i) w (v i) := by
            rcases hy b i o hi1 him hol with ⟨hd, h⟩ | h
            · have := hdep mi (by omega) hd
              rw [this] at hH
              exact h w hH
            · exact h w hH.bsM
          refine hyl.wpOp (by simpa using hol) hw he ?_
          intro w' hb
          have hH' := hH.call hb
          have := hrest b β w' (fun _ => rfl) (fun _ _ _ => rfl) (by rw [hst]; exact hH') (by
            rw [hst]
            exact ⟨fun q hq hs => (hNews.below hb).at_ q hq (by rwa [getD_set_ne true (by omega)] at hs),
              fun q r hq hr hs hs' hne => hNews.ne q r hq hr (by rwa [getD_set_ne true (by omega)] at hs) (by rwa [getD_set_ne true (by omega)] at hs') hne⟩)
          rw [hdo]
          simpa [valOf, hi1, vb, him] using this
      · obtain ⟨q, rfl⟩ : ∃ q, i = n1 + q := ⟨i - n1, by omega⟩
        have hq : q < L.length := by omega
        obtain ⟨he, _⟩ := alike_of_looks (a2 := accL l (vb mi mkv v b) a0 n1) hsel (hlook n1 (Nat.le_refl _) (by omega) (fun j t ht hd => .inr rfl))
        refine (hN b q o L[q] hol (List.getElem?_eq_getElem hq)).wpOp (by simpa using hol) he ?_
        have hst : (listed.setIfInBounds (n1 + q) true).getD mi true = listed.getD mi true := getD_set_ne true (by omega)
        have hH' : Has W (w.alloc (.cells L[q].1 L[q].2)) (bsM (listed.getD mi true) (b, mcs, mT) bs) := (hH.alloc _ _).sub (List.sublist_cons_self _ _)
        have hbel : Below w.heap.size w (w.alloc (.cells L[q].1 L[q].2)) := (Below.refl _ _).alloc (Nat.le_refl _) _
        have hnq : ∀ r, r < L.length → r ≠ q → ((listed.setIfInBounds (n1 + q) true).getD (n1 + r) true = true ↔ listed.getD (n1 + r) true = true) := fun r _ hr => by rw [getD_set_ne true (by omega)]
        have := hrest b (fun r => if r = q then w.heap.size else β r) _ (fun _ => rfl) (fun r hr hs => by
            have : r ≠ q := fun e => by subst e; rw [hun] at hs; cases hs
            simp [this]) (by rw [hst]; exact hH') (by
            rw [hst]
            exact ⟨fun r hr hs => by
              by_cases hrq : r = q
              · subst hrq
                refine ⟨by simp only [if_true]; exact W.new _ _ hH.good (Nat.le_refl _), ?_, fun x hx => ?_⟩
                · simp only [if_true]; rw [heap_alloc_new]; simp [hr]
                · simp only [if_true]; exact Nat.ne_of_lt (hH.lt hx)
              · simp only [hrq, if_false]
                exact (hNews.below hbel).at_ r hr ((hnq r hr hrq).1 hs), fun r s hr hs hur hus hne => by
              by_cases hrq : r = q
              · subst hrq
                have hsr : s ≠ r := fun e => hne e.symm
                simp only [if_true, hsr, if_false]
                have := (hNews.at_ s hs ((hnq s hs hsr).1 hus)).2.1
                exact Nat.ne_of_gt (Array.getElem?_eq_some_iff.1 this).1
              · by_cases hsq : s = q
                · subst hsq
                  simp only [if_true, hrq, if_false]
                  have := (hNews.at_ r hr ((hnq r hr hrq).1 hur)).2.1
                  exact Nat.ne_of_lt (Array.getElem?_eq_some_iff.1 this).1
                · simp only [hrq, hsq, if_false]
                  exact hNews.ne r s hr hs ((hnq r hr hrq).1 hur) ((hnq s hs hsq).1 hus) hne⟩)
        rw [hdo]
        simpa [valOf, hi1] using this

/-- **A REGION THAT DRAWS ITS ORDER, WITH A MAKER, IN ONE WALK.** -/
theorem wp_drawM {id : Nat} {a : Act} {w : World} {W : Base} {bs : List Blk} (m : Nat) (vs : List Value) (L : List (Array Value × TypeId)) {mkv : Nat → Value} {mcs : Array Value} {mT : TypeId}
    (hs : shapeOk l.toArray (m + 1 + vs.length) L.length = true) (hH : Has W w bs)
    (h : wpD l.toArray W bs m (fun os A => match os with
      | [] => False
      | o :: os => MakerOp l.toArray o A W bs mkv mcs mT ∧ ∀ b, wpE l.toArray W bs (b, mcs, mT) m (m + 1) vs (fun os A' => wpN A' L (fun os F nb => ∀ w', Has W w' (nb ++ (b, mcs, mT) :: bs) → wpList Try.prog l.toArray Q os F w') os A' []) os (A.put o.dst (mkv b))) l a) :
    (Code.region id l.toArray true).wp Try.prog Q a w := by
  have sh := shape_of hs
  obtain ⟨hl1, v1, hy1, h2⟩ := wpD_out h
  obtain ⟨om, os, hdr⟩ : ∃ om os, l.drop m = om :: os := by
    cases hd : l.drop m with
    | nil => rw [hd] at h2; exact h2.elim
    | cons om os => exact ⟨om, os, rfl⟩
  rw [hdr] at h2
  obtain ⟨hmk, hE⟩ := h2
  have hom : l[m]? = some om := by
    have : (l.drop m)[0]? = some om := by rw [hdr]; rfl
    simpa using this
  have hos : os = l.drop (m + 1) := by
    have : (l.drop m).drop 1 = os := by rw [hdr]; rfl
    rw [← this, List.drop_drop]
  subst hos
  -- the values
  obtain ⟨v, hv⟩ : ∃ v : Nat → Value, v = fun i => if i < m then v1 i else vs.getD (i - (m + 1)) undef := ⟨_, rfl⟩
  have hvlt : ∀ i, i < m → v i = v1 i := fun i hi => by rw [hv]; simp [hi]
  have hvge : ∀ j, v (m + 1 + j) = vs.getD j undef := fun j => by rw [hv]; simp [show ¬ (m + 1 + j < m) by omega]
  have hacc1 : ∀ b k, k ≤ m → accL l (vb m mkv v b) a k = accL l v1 a k := fun b k hk => accL_congr fun i hi => by
    unfold vb
    rw [if_neg (by omega), hvlt i (by omega)]
  have haccm : ∀ b, accL l (vb m mkv v b) a (m + 1) = (accL l v1 a m).put om.dst (mkv b) := fun b => by
    rw [accL, hacc1 b m (Nat.le_refl _)]
    have : dstOf l m = om.dst := by simp [dstOf, hom]
    rw [this]; unfold vb; rw [if_pos rfl]
  have hacc2 : ∀ b j, accL l (vb m mkv v b) a (m + 1 + j) = accL (l.drop (m + 1)) (fun j => vs.getD j undef) ((accL l v1 a m).put om.dst (mkv b)) j := fun b j => by
    rw [accL_drop, haccm]
    refine accL_congr fun i _ => ?_
    unfold vb
    rw [if_neg (by omega), hvge]
  have hn1 : m + 1 + vs.length ≤ l.length := by
    have := (wpE_out (hE 0)).1
    simp at this
    have hml : m < l.length := (List.getElem?_eq_some_iff.1 hom).1
    omega
  have hEo := fun b => wpE_out (hE b)
  have h3 : ∀ b, L.length ≤ (l.drop (m + 1 + vs.length)).length ∧ (∀ (i : Nat) (o : Oper) (c : Array Value × TypeId), (l.drop (m + 1 + vs.length))[i]? = some o → L[i]? = some c → NewOp o (accL l (vb m mkv v b) a (m + 1 + vs.length)) c.1 c.2) ∧
      ∀ β : Nat → Nat, ∀ w', Has W w' (nbOf L β ++ (b, mcs, mT) :: bs) → wpList Try.prog l.toArray Q ((l.drop (m + 1 + vs.length)).drop L.length) (accL (l.drop (m + 1 + vs.length)) (fun i => .pointer (some ⟨β i, 0, none⟩)) (accL l (vb m mkv v b) a (m + 1 + vs.length)) L.length) w' := by
    intro b
    have h4 := wpN_out (hEo b).2.2
    rw [List.drop_drop, ← hacc2 b vs.length] at h4
    refine ⟨h4.1, h4.2.1, fun β w' hw => ?_⟩
    have := h4.2.2 β w' (by simpa using hw)
    exact this
  have hn : m + 1 + vs.length + L.length ≤ l.length := by
    have := (h3 0).1
    simp at this; omega
  have hyall : ∀ b i o, i < m + 1 + vs.length → i ≠ m → l[i]? = some o → (depB l.toArray i m = true ∧ ∀ w, Has W w ((b, mcs, mT) :: bs) → Yld l.toArray o (accL l (vb m mkv v b) a i) w (v i)) ∨ ∀ w, Has W w bs → Yld l.toArray o (accL l (vb m mkv v b) a i) w (v i) := by
    intro b i o hi him ho
    rcases Nat.lt_or_ge i m with hlt | hge
    · right
      intro w hw
      rw [hacc1 b i (by omega), hvlt i hlt]
      exact hy1 i o hlt ho w hw
    · obtain ⟨j, rfl⟩ : ∃ j, i = m + 1 + j := ⟨i - (m + 1), by omega⟩
      have := (hEo b).2.1 j o (by omega) (by simpa using ho)
      rw [hacc2 b j, hvge j]
      exact this
  refine wp_region_any (by kernel_rfl) ?_
  have hH' : Has W { w with drawn := w.drawn + 1 } bs := hH.drew
  have hfin : ∀ b β w, Has W w (nbOf L β ++ (b, mcs, mT) :: bs) → wpList Try.prog l.toArray Q (l.drop (m + 1 + vs.length + L.length)) (accL l (valOf (m + 1 + vs.length) (vb m mkv v b) β) a (m + 1 + vs.length + L.length)) w := by
    intro b β w hw
    have h5 := (h3 b).2.2 β w hw
    have e1 : accL l (valOf (m + 1 + vs.length) (vb m mkv v b) β) a (m + 1 + vs.length) = accL l (vb m mkv v b) a (m + 1 + vs.length) := accL_congr fun i hi => by simp [valOf, hi]
    rw [accL_drop, e1]
    have e2 : (fun i => valOf (m + 1 + vs.length) (vb m mkv v b) β (m + 1 + vs.length + i)) = (fun i => Value.pointer (some ⟨β i, 0, none⟩)) := by
      funext i; simp only [valOf]; rw [if_neg (by omega), show m + 1 + vs.length + i - (m + 1 + vs.length) = i by omega]
    rw [e2]
    rw [List.drop_drop] at h5
    exact h5
  have hrep : ∀ i, i < l.length → (Array.replicate l.toArray.size false).getD i true = false := fun i hi => by simp [hi]
  have hmf : (Array.replicate l.toArray.size false).getD m true = false := hrep m (by omega)
  have := wpAny_preM (Q := Q) (mi := m) (by omega) sh hn hom (fun b => by rw [hacc1 b m (Nat.le_refl _)]; exact hmk) hyall (fun b q o c ho hc => (h3 b).2.1 q o c (by simpa using ho) hc) hfin l.length (Array.replicate l.toArray.size false) a { w with drawn := w.drawn + 1 } 0 (fun _ => 0) (by simp)
    (by
      have : (List.range l.length).countP (fun i => !(Array.replicate l.toArray.size false).getD i true) = (List.range l.length).length := List.countP_eq_length.2 fun i hi => by simp only [hrep i (List.mem_range.1 hi)]; rfl
      simpa using this)
    (fun i j hi _ hl _ => by rw [hrep i hi] at hl; cases hl) (fun i hi _ => hrep i hi) ⟨m, by omega, hmf⟩
    (Chr.nil _ _ _ fun i hi => by have := hrep i (by omega); rw [this] at hi; cases hi.2) (by rw [hmf]; exact hH')
    (by rw [hmf]; exact ⟨fun q hq hs => (by rw [hrep (m + 1 + vs.length + q) (by omega)] at hs; cases hs), fun q r hq hr hs => (by rw [hrep (m + 1 + vs.length + q) (by omega)] at hs; cases hs)⟩)
  simpa using this
end draw

section we
variable {ops : Array Oper} {W : Base} {bs : List Blk} {bm : Blk} {m i : Nat} {A : Act} {o : Oper} {os : List Oper} {vs : List Value} {v : Value} {k : List Oper → Act → Prop}
theorem we_callD {c : Call} {f : FuncId} (hw : Region.wanted o (yielded ops A.tmps) = true) (ho : o.op = .call c) (hc : c.callee = .value (.func f)) [CanEnter f] {args : Array Value} (ha : c.args.map A.eval = args)
    (hcall : RetH W (bm :: bs) f args v) (hd : depB ops i m = true) (h : wpE ops W bs bm m (i + 1) vs k os (A.put o.dst v)) : wpE ops W bs bm m i (v :: vs) k (o :: os) A :=
  ⟨.inl ⟨hd, fun w hH => .inl ⟨hw, by rw [ex_call ho hc]; subst ha; exact hcall.calls w hH⟩⟩, h⟩
theorem we_callc {c : Call} {f : FuncId} (hw : Region.wanted o (yielded ops A.tmps) = true) (ho : o.op = .call c) (hc : c.callee = .value (.func f)) [CanEnter f] {args : Array Value} (ha : c.args.map A.eval = args)
    (hcall : Ret f args v) (h : wpE ops W bs bm m (i + 1) vs k os (A.put o.dst v)) : wpE ops W bs bm m i (v :: vs) k (o :: os) A :=
  ⟨.inr fun w _ => .inl ⟨hw, by rw [ex_call ho hc]; subst ha; exact hcall.calls w⟩, h⟩
theorem we_valH (hw : Region.wanted o (yielded ops A.tmps) = true) (hv : ∀ w, Has W w bs → (execOp A.eval o).run Try.prog w = .ok (.value v) w)
    (h : wpE ops W bs bm m (i + 1) vs k os (A.put o.dst v)) : wpE ops W bs bm m i (v :: vs) k (o :: os) A :=
  ⟨.inr fun w hH => .inl ⟨hw, by rw [hv w hH]; exact ⟨rfl, Below.refl _ _⟩⟩, h⟩
theorem we_done (h : k os A) : wpE ops W bs bm m i [] k os A := h
end we
end Go.Proofs.Ytmbbdblmengdhaa
