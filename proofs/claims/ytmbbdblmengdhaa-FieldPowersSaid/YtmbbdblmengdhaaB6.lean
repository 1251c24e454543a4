/- Inside a round of a range over a function: the rules of the plain walk serve there too. The iterator over a key's bits. -/
import Derived.Test.YtmbbdblmengdhaaB5
import Derived.Test.YtmbbdblmengdhaaB3
import Derived.RangeFuncNested
import Derived.RangeFuncCalls
import Derived.RangeFuncLeaves
set_option linter.unusedSimpArgs false
set_option linter.unusedVariables false
namespace Go.Proofs.Ytmbbdblmengdhaa
open Go.RowKit

abbrev Rd (l : Nat) : Fence := Fence.wide.inRound l

theorem rowsIn_rd {l n : Nat} {row : String} {args : Array Value} {w : World} {R : Value → World → Prop} (h : Rows Try.prog row args w R) : RowsIn (Rd l) n Try.prog row args w R := fun c cs _ => by
  obtain ⟨v, w', r, s⟩ := h c cs
  exact ⟨v, w', r, stepsIn_wide.2 s⟩
theorem callsIn_rd {l n : Nat} {f : FuncId} {args : Array Value} {w : World} {R : Ending → World → Prop} (h : Calls Try.prog f args w R) : CallsIn (Rd l) n Try.prog f args w R :=
  CallsIn.inRound l (callsIn_wide.2 h)

def noDefer (l : List Oper) : Bool := l.all fun o => match o.op with | .defer _ => false | _ => true
theorem noDefer_spec {l : List Oper} (h : noDefer l = true) {o : Oper} (ho : o ∈ l) : ∀ c, o.op ≠ .defer c := by
  intro c e
  have := List.all_eq_true.1 h o ho
  rw [e] at this
  cases this

theorem oper_rd {l n : Nat} {o : Oper} {a : Act} {w : World} {next : Act → World → Prop} {Q : Exit → Act → World → Prop} (hd : ∀ c, o.op ≠ .defer c) (h : o.wp Try.prog a w next Q) : o.wpIn (Rd l) n Try.prog a w next Q := by
  refine ⟨fun _ _ => trivial, ?_⟩
  rw [Oper.semAt_eq _ _ _ hd]
  unfold Oper.wp at h
  generalize (execOp a.eval o).run Try.prog w = r at h
  cases r with
  | halt x w' => cases x <;> first | exact h | exact h.elim
  | ok x w' =>
    cases x <;> first | exact h | exact h.elim | skip
    case enter f args => exact ⟨fun e => (by cases e), callsIn_rd h⟩
    case row row args => exact ⟨fun e => (by cases e), rowsIn_rd h⟩

theorem list_rd {l n : Nat} {ops : Array Oper} {Q : Exit → Act → World → Prop} (hQ : ¬ LetsOut Q) : ∀ {os : List Oper} {a : Act} {w : World}, (∀ o ∈ os, ∀ c, o.op ≠ .defer c) → wpList Try.prog ops Q os a w → wpListIn (Rd l) n Try.prog ops Q os a w
  | [], _, _, _, h => h
  | o :: os, a, w, hd, h => by
    unfold wpList at h
    unfold wpListIn
    split
    · rename_i hw
      rw [if_pos hw] at h
      rcases h with h | h
      · refine oper_rd (hd o (by simp)) ?_
        exact Oper.wp_mono (fun a' w' h' => list_rd hQ (fun o' ho' => hd o' (by simp [ho'])) h') h
      · exact absurd h.2 hQ
    · rename_i hw
      rw [if_neg hw] at h
      exact ⟨fun _ _ => trivial, list_rd hQ (fun o' ho' => hd o' (by simp [ho'])) h⟩
/-- A region in a round, by the plain walk. -/
theorem region_rd {l n id : Nat} {os : List Oper} {Q : Exit → Act → World → Prop} {a : Act} {w : World} (hQ : ¬ LetsOut Q) (hd : noDefer os = true) (h : wpList Try.prog os.toArray Q os a w) : (Code.region id os.toArray false).wpIn (Rd l) n Try.prog Q a w :=
  wpIn_region_lit (list_rd hQ (fun _ ho => noDefer_spec hd ho) h)
theorem letsOut_then {K : Act → World → Prop} {Q : Exit → Act → World → Prop} (h : ¬ LetsOut Q) : ¬ LetsOut (Exit.then K Q) := h
theorem letsOut_block {id : Nat} {Q : Exit → Act → World → Prop} (h : ¬ LetsOut Q) : ¬ LetsOut (Exit.inBlock id Q) := h
theorem letsOut_own {α : Type} {Kp : World → World → Prop} {I : List α → World → Prop} {Ix : Code → List α → World → Prop} {xs : List α} {W : World} : ¬ LetsOut (ownPostK Kp I Ix xs W) := fun ⟨_, _, h⟩ => h
theorem letsOut_false {K : Act → World → Prop} : ¬ LetsOut (Exit.then K (fun _ _ _ => False)) := fun ⟨_, _, h⟩ => h

/-! ### What a caller's own blocks keep -/
theorem Has.grown {Wc W W' : World} {bs : List Blk} {row : Option Nat} (h : Has (baseW Wc) W bs) (hg : W.grownBy W' row) (hr : ∀ r, row = some r → Wc.heap.size ≤ r ∧ ∃ o : Obj, W.heap[r]? = some o ∧ o.isCells = false) : Has (baseW Wc) W' bs := by
  refine ⟨h.below.grown hg h.below.size (fun k e => (hr k e).1), fun x hx => ?_, h.nd⟩
  have hb := h.blk x hx
  refine ⟨hb.1, ?_⟩
  have hlt := (Array.getElem?_eq_some_iff.1 hb.2).1
  rw [hg.block x.1 hlt (fun e => by
    obtain ⟨_, o, ho, hc⟩ := hr x.1 e.symm
    rw [hb.2] at ho
    cases ho
    cases hc)]
  exact hb.2
theorem has_ownFrom {β : Type} {Wc : World} {B : Nat} {bs : β → List Blk} (hB : Wc.heap.size ≤ B) : OwnFrom B (fun s W => Has (baseW Wc) W (bs s)) := fun _ _ _ _ hs hg hr =>
  hs.grown hg fun r e => ⟨Nat.le_trans hB (hr r e).1, (hr r e).2⟩

/-- In a round that begins in W0: whatever is no cells lies as it lay, and so does what lay below n. -/
def baseR (n : Nat) (W0 : World) (hn : n ≤ W0.heap.size) : Base where
  G w := KeepsOthers W0 w ∧ Below n W0 w
  own b := n ≤ b ∧ ∀ o : Obj, W0.heap[b]? = some o → o.isCells = true
  alloc w o h := ⟨h.1.trans (KeepsOthers.alloc w o), h.2.alloc (Nat.le_trans hn h.1.size) _⟩
  call w w' h hb := ⟨h.1.trans ⟨hb.size, fun b o ho _ => by rw [hb.block _ (Array.getElem?_eq_some_iff.1 ho).1]; exact ho⟩, h.2.trans (hb.mono (Nat.le_trans hn h.1.size))⟩
  row w b cs hb h := by
    refine ⟨⟨by simp; exact h.1.size, fun k o ho hc => ?_⟩, h.2.trans ⟨rfl, rfl, rfl, by simp, fun k hk => setRow_other _ _ _ _ (by have := hb.1; omega)⟩⟩
    have hkb : k ≠ b := fun e => by
      subst e
      rw [hb.2 o ho] at hc
      cases hc
    rw [setRow_other _ _ _ _ hkb]
    exact h.1.same k o ho hc
  new w b h hb := ⟨Nat.le_trans hn (Nat.le_trans h.1.size hb), fun o ho => by
    have h1 := (Array.getElem?_eq_some_iff.1 ho).1
    have h2 := h.1.size
    omega⟩
theorem Has.round {Wc W : World} {bs : List Blk} (h : Has (baseW Wc) W bs) : Has (baseR Wc.heap.size W h.below.size) W bs :=
  ⟨⟨KeepsOthers.refl _, Below.refl _ _⟩, fun x hx => ⟨⟨(h.blk x hx).1, fun o ho => by rw [(h.blk x hx).2] at ho; cases ho; rfl⟩, (h.blk x hx).2⟩, h.nd⟩
theorem Has.round' {Wc W : World} {bs : List Blk} (h : Has (baseW Wc) W bs) : ∃ hn : Wc.heap.size ≤ W.heap.size, Has (baseR Wc.heap.size W hn) W bs := ⟨_, h.round⟩
theorem Has.unround {Wc W W' : World} {bs bs' : List Blk} (h : Has (baseW Wc) W bs) {hn : Wc.heap.size ≤ W.heap.size} (h' : Has (baseR Wc.heap.size W hn) W' bs') : Has (baseW Wc) W' bs' :=
  ⟨h.below.trans h'.good.2, fun x hx => ⟨(h'.blk x hx).1.1, (h'.blk x hx).2⟩, h'.nd⟩

/-- The return of a function that has gone through a range over a function: its mark is taken. -/
theorem ret_mark (i : Nat) {a : Act} {w W : World} {bs : List Blk} {m : Nat} {fn : Func} {R : Ending → World → Prop} {p : Tmp} {t : TypeId} (hf : fn.results = #[.cell p t]) {n : Nat} [hr : RowT t n] {b : Nat} (hp : a.tmps.getD p undef = .pointer (some ⟨b, 0, none⟩))
    (hH : Has (baseW W) w bs) {cs : Array Value} {T : TypeId} (hb : bs[i]? = some (b, cs, T)) (hn : cs.size = n) {D : Nat} (hd : a.defers = [{ target := .collected D, args := #[] }]) (hK : w.heap[D]? = some (.deferred (some []))) (hD : W.heap.size ≤ D)
    (hR : ∀ w', Below W.heap.size W w' → R (.returned (.agg cs)) w') : bodyPostM Fence.wide m Try.prog fn R .ret a w := by
  obtain ⟨d, hu, hdr⟩ := hr.row
  show LeavesInM Fence.wide m Try.prog fn a.tmps R a.defers .returning w
  rw [hd]
  refine ⟨by simp, .inl ⟨_, _, rfl, run_takeDeferred hK, ?_⟩⟩
  have hg := hH.get hb
  have hne : b ≠ D := fun e => by
    rw [← e, hg] at hK
    cases hK
  have hg' : (w.putObj D (.deferred none)).heap[b]? = some (.cells cs T (0, 0)) := by
    rw [World.putObj_heap_other hne]; exact hg
  exact ⟨_, results_cell_row hf a.tmps (w.putObj D (.deferred none)) b T cs (0, 0) d hp hg' hu (by cases d <;> first | rfl | cases hdr) (by rw [hr.size, hn]),
    hR _ (hH.below.trans (belowK_b (w := W) (Nat.le_refl _) w D _ _ hD hK rfl rfl))⟩
end Go.Proofs.Ytmbbdblmengdhaa
