/- The rows' frame: a law over keys answers true, and keeps what it was given. -/
import Derived.Test.YtmbbdblmengdhaaRows
import Derived.Test.YtmbbdblmengdhaaB1
import Derived.ProofKit
import Derived.OpenShut
set_option linter.unusedSimpArgs false
set_option linter.unusedVariables false
namespace Go.Proofs.Ytmbbdblmengdhaa
open Go.ChangeShapes Go.WideShapes Go.ChangeAt Go.RowKit

theorem Try.own : ownKnob Try.prog.godebug = none := by kernel_rfl
theorem Try.laidOut : laidOutB Try.prog = true := by kernel_rfl

/-- A key: 32 bytes. -/
structure IsKey (l : List Nat) : Prop where
  len : l.length = 32
  lt : ∀ i, l.getD i 0 < 256

theorem trod_u8_stays {H : Type} {enc : TypeId × Value → H} {W W' : World} {b b' : Nat} {sp sp' : Nat → Bool} {hd hd' : Bool} (m : Nat) (cs : List Value) :
    DataW.trod enc Try.prog W b sp hd m 5 cs = DataW.trod enc Try.prog W' b' sp' hd' m 5 cs := by
  cases m with
  | zero => rfl
  | succ m =>
    match cs with
    | [] => simp [DataW.trod, Try.underlying5]
    | [x] => cases x <;> simp [DataW.trod, Try.underlying5]
    | _ :: _ :: _ => simp [DataW.trod, Try.underlying5]

theorem trod_key_stays {H : Type} {enc : TypeId × Value → H} {W W' : World} {b b' : Nat} {sp sp' : Nat → Bool} {hd hd' : Bool} (m : Nat) (cs : List Value) :
    DataW.trod enc Try.prog W b sp hd m 23 cs = DataW.trod enc Try.prog W' b' sp' hd' m 23 cs := by
  cases m with
  | zero => rfl
  | succ m =>
    simp only [DataW.trod, Try.underlying23]
    simp only [trod_u8_stays (W := W) (W' := W') (b := b) (b' := b') (sp := sp) (sp' := sp') (hd := hd) (hd' := hd')]

theorem bytes_list : ∀ (cs : List Value), (∀ i, i < cs.length → ∃ x : Int, cs[i]? = some (.int .u8 x) ∧ 0 ≤ x ∧ x < 256) → ∃ l : List Nat, l.length = cs.length ∧ (∀ i, l.getD i 0 < 256) ∧ cs = l.map fun n : Nat => Value.int .u8 (n : Int)
  | [], _ => ⟨[], rfl, fun i => by simp, rfl⟩
  | c :: cs, h => by
    obtain ⟨x, hx, h0, h1⟩ := h 0 (by simp)
    obtain ⟨l, hl, hb, rfl⟩ := bytes_list cs (fun i hi => by simpa using h (i + 1) (by simpa using hi))
    refine ⟨x.toNat :: l, by simp, fun i => ?_, ?_⟩
    · cases i with
      | zero => simp; omega
      | succ i => simpa using hb i
    · simp only [List.getElem?_cons_zero, Option.some.injEq] at hx
      have : ((x.toNat : Nat) : Int) = x := by omega
      simp only [List.map_cons, this, hx]

theorem open_key {H : Type} {enc : TypeId × Value → H} {W : World} {v : Value} {d : DataW H} {p : List MemPlace} (hv : Value.okWide Try.prog W .any 0 23 v)
    (h : DataW.Trod enc Try.prog W 0 (fun _ => true) true 23 v d p) : ∃ l, IsKey l ∧ v = .agg (C .u8 l) ∧ p = [] ∧ ∀ W' sp, DataW.Trod enc Try.prog W' 0 sp true 23 v d [] := by
  obtain ⟨cs, rfl, hsz, _⟩ : ∃ cs, v = .agg cs ∧ cs.size = Try.prog.cellsOf 23 ∧ Row.okWide Try.prog W .any 0 23 cs := by
    simpa [Value.okWide, Try.underlying23] using hv
  rw [show Try.prog.cellsOf 23 = 32 by kernel_rfl] at hsz
  obtain ⟨m, hm⟩ := h
  have hm0 := hm
  obtain ⟨xs, k, rfl, hx, hl, hn, hel⟩ := DataW.trod_array Try.underlying23 hm
  rw [show Try.prog.cellsOf 23 = 32 by kernel_rfl] at hl
  have c5 : Try.prog.cellsOf 5 = 1 := by kernel_rfl
  have hcs : (Value.agg cs).cells.toList = cs.toList := rfl
  rw [hcs] at hm hm0 hel hl
  have each : ∀ i, i < cs.toList.length → ∃ x : Int, cs.toList[i]? = some (.int .u8 x) ∧ 0 ≤ x ∧ x < 256 ∧ xs[i]? = some (.lit (.int .u8 x), []) := by
    intro i hi
    have hE := hel i (by omega)
    rw [c5, Nat.mul_one, List.getElem?_eq_getElem (by omega : i < xs.length)] at hE
    obtain ⟨z, e1, e2, e3⟩ := DataW.trod_int Try.underlying5 hE
    refine ⟨z, ?_, ?_, ?_, ?_⟩
    · have h0 : ((cs.toList.drop i).take 1)[0]? = some (.int .u8 z) := by rw [e1]; rfl
      simpa using h0
    · simp [Lit.wf, IntKind.min, IntKind.max, IntKind.signed, IntKind.bits] at e3; omega
    · simp [Lit.wf, IntKind.min, IntKind.max, IntKind.signed, IntKind.bits] at e3; omega
    · rw [List.getElem?_eq_getElem (by omega : i < xs.length), e2]
  obtain ⟨l, hll, hlb, hlc⟩ := bytes_list cs.toList (fun i hi => by obtain ⟨x, a, b, c, _⟩ := each i hi; exact ⟨x, a, b, c⟩)
  have hp : xs.flatMap (·.2) = [] := by
    rw [List.flatMap_eq_nil_iff]
    intro x hx
    obtain ⟨i, hi, rfl⟩ := List.getElem_of_mem hx
    obtain ⟨_, _, _, _, e⟩ := each i (by omega)
    rw [List.getElem?_eq_getElem hi] at e
    rw [Option.some.inj e]
  obtain ⟨rfl, rfl⟩ := Prod.mk.inj hx
  refine ⟨l, ⟨by omega, hlb⟩, ?_, hp, fun W' sp => ⟨k + 1, ?_⟩⟩
  · rw [C, ← hlc]
  · rw [hp] at hm0
    rw [hcs, ← hm0]
    exact trod_key_stays _ _

theorem shut_true {H : Type} {enc : TypeId × Value → H} {W' : World} {bb : Nat} {sp : Nat → Bool} {hd : Bool} : DataW.Trod enc Try.prog W' bb sp hd 4 (.bool true) (.lit (.bool true)) [] :=
  ⟨1, by simp [DataW.trod, Value.cells, Try.underlying4]⟩
theorem ok_true {W' : World} : Value.okWide Try.prog W' .any 0 4 (.bool true) := by
  simp [Value.okWide, Try.underlying4, Cell.okWide, Cell.ok]

/-- A call that was handed no place of memory, and turned nothing that was there. -/
theorem post_of_keys {H : Type} {enc : TypeId × Value → H} {P : Program} {f : Func} {s : ChangeSpec} {apart fresh handsOn again : Bool} {W W' : World} {args : Array Value} {v : Value} {ds : List (DataW H)}
    (hW : DataW.Whole enc P f.params.toList s.vars apart W args.toList ds [] [])
    (hr : ∀ b sp hd, DataW.TrodAll enc P W' b sp hd f.resultTypes.toList (v.resultList f.resultTypes.size) (s.fn H (ds ++ [])).results [])
    (ha : ∀ sp, DataW.TrodAll enc P W' 0 sp true f.params.toList args.toList (s.fn H (ds ++ [])).args [])
    (hv : ∀ sp, DataW.TrodVars enc P W' sp s.vars (s.fn H (ds ++ [])).vars [])
    (hk : W.keptBut W' (fun _ => False))
    (hok : ∀ (j : Nat) (t : TypeId) (r : Value), f.resultTypes[j]? = some t → (v.resultList f.resultTypes.size)[j]? = some r → Value.okWide P W' .any 0 t r) :
    s.post enc P f apart fresh handsOn again W args v W' := by
  refine ⟨ds, [], [], [], [], [], hW, hr _ _ _, ha _, hv _, World.keptBut_mono (fun _ h => h.elim) hk, fun _ => ⟨hok, _, _, [], ⟨[], [], trodAll_append (ha _) (hr _ _ _), hv _, rfl, ?_, ?_⟩, ?_⟩⟩
  · intro b off h
    cases h
  · intro _
    exact List.nodup_nil
  · intro p h
    cases h
end Go.Proofs.Ytmbbdblmengdhaa
