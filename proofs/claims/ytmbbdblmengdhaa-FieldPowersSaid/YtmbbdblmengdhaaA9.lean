/- Walks: Bits and the iterator that it hands back. -/
import Derived.Test.YtmbbdblmengdhaaB6
import Derived.OwnWalkIn
import Derived.TacticsInMore
import Derived.LoopNIn
import Derived.LoopIn
import Derived.Test.YtmbbdblmengdhaaV9
set_option linter.unusedSimpArgs false
set_option linter.unusedVariables false
namespace Go.Proofs.Ytmbbdblmengdhaa
open Go.RowKit

attribute [local go_sem] Oper.semAt_some

section wi
variable {n : Nat} {ops : Array Oper} {Q : Exit → Act → World → Prop} {a : Act} {w : World} {rest : List Oper} {o : Oper}
theorem wi_val (hg : o.guard = none) {v : Value} (hv : ∀ w, (execOp a.eval o).run Try.prog w = .ok (.value v) w) (h : wpListIn Fence.wide n Try.prog ops Q rest (a.put o.dst v) w) : wpListIn Fence.wide n Try.prog ops Q (o :: rest) a w :=
  wpListIn_plain hg fun _ hK => ⟨fun _ _ => trivial, by
    rw [show (Fence.wide).round = none from rfl, Oper.semAt_none, hv]
    exact hK _ _ h⟩
theorem wi_load (hg : o.guard = none) {t : TypeId} {p : Operand} (ho : o.op = .load t p) [hs : OneT t] {b off : Nat} (hp : a.eval p = .pointer (some ⟨b, off, none⟩)) {v : Value} (hc : w.cell? ⟨b, off, none⟩ = some v)
    (h : wpListIn Fence.wide n Try.prog ops Q rest (a.put o.dst v) w) : wpListIn Fence.wide n Try.prog ops Q (o :: rest) a w :=
  wpListIn_plain hg fun _ hK => ⟨fun _ _ => trivial, by
    have e : (execOp a.eval o).run Try.prog w = .ok (.value v) w := by
      unfold execOp
      simp only [ho, hp, Instr.loadAt, Instr.sureAddr, loadVar, Sem.run_bind, Sem.run_pure, Result.andThen_ok, hs.agg w, Bool.false_eq_true, if_false, run_load, hc]
    rw [show (Fence.wide).round = none from rfl, Oper.semAt_none, e]
    exact hK _ _ h⟩
end wi
section ex
variable {a : Act} {o : Oper} {xt yt : TypeId} {x y : Operand} {m n : Nat}
theorem ex_and_u8V (ho : o.op = .binOp .and xt x y yt) (hx : a.eval x = .int .u8 (m : Int)) (hy : a.eval y = .int .u8 (n : Int)) {v : Nat} (hv : (m &&& n) % 256 = v) (w : World) :
    (execOp a.eval o).run Try.prog w = .ok (.value (.int .u8 (v : Nat))) w := by rw [← hv]; exact ex_and_u8 ho hx hy w
end ex

/-- Bit k of a key. -/
def keyBit (l : List Nat) (k : Nat) : Bool := decide (l.getD (k / 8) 0 / 2 ^ (k % 8) % 2 = 1)
def bN (b : Bool) : Nat := if b then 1 else 0
theorem keyBit_and (l : List Nat) (k : Nat) : (l.getD (k / 8) 0 / 2 ^ (k % 8) &&& 1) % 256 = bN (keyBit l k) := by
  rw [Nat.and_one_is_mod]
  unfold keyBit bN
  have : l.getD (k / 8) 0 / 2 ^ (k % 8) % 2 < 2 := Nat.mod_lt _ (by decide)
  by_cases h : l.getD (k / 8) 0 / 2 ^ (k % 8) % 2 = 1
  · simp only [h, decide_true, if_true]
  · have h0 : l.getD (k / 8) 0 / 2 ^ (k % 8) % 2 = 0 := by omega
    simp only [h0, show ¬ (0 = 1) by decide, decide_false, Bool.false_eq_true, if_false]
/-- The first m bits, from the highest on. -/
def upBits (l : List Nat) (m : Nat) : List Bool := (List.range m).map fun i => keyBit l (255 - i)
theorem upBits_succ (l : List Nat) (m : Nat) : upBits l (m + 1) = upBits l m ++ [keyBit l (255 - m)] := by
  simp [upBits, List.range_succ]
@[simp] theorem upBits_len (l : List Nat) (m : Nat) : (upBits l m).length = m := by simp [upBits]
theorem upBits_prefix (l : List Nat) {m k : Nat} (h : m ≤ k) : upBits l m <+: upBits l k := by
  refine ⟨((List.range (k - m)).map fun i => keyBit l (255 - (m + i))), ?_⟩
  unfold upBits
  rw [show k = m + (k - m) by omega, List.range_add, List.map_append, List.map_map, show m + (k - m) - m = k - m by omega]
  rfl
def encB (b : Bool) : Array Value := #[.int .i64 (bN b : Nat)]

set_option maxRecDepth 100000 in
set_option maxHeartbeats 1000000 in
theorem bits1_in (n : Nat) (hn : 1 ≤ n) {lp kb : Nat} {l : List Nat} (hl : l.length = 32) (hb : ∀ i, l.getD i 0 < 256) {Kp : World → World → Prop} (hk : ∀ {A B : World}, Kp A B → ∀ j, B.cell? ⟨kb, j, none⟩ = A.cell? ⟨kb, j, none⟩) {J Jx : List Bool → World → Prop}
    (hY : ∀ pre x W, J pre W → pre.length < 256 → YieldAt Fence.wide (n - 1) Try.prog lp (encB x) W fun e W' =>
      (e = .returned (.bool true) ∧ J (pre ++ [x]) W' ∧ Kp W W') ∨ (e = .returned (.bool false) ∧ Jx (pre ++ [x]) W'))
    (W : World) (hB : ∀ j, j < 32 → W.cell? ⟨kb, j, none⟩ = some (.int .u8 (l.getD j 0 : Nat))) (h0 : J [] W) :
    CallsIn Fence.wide n Try.prog 59 #[.func (.yield lp) #[] #[], .pointer (some ⟨kb, 0, none⟩)] W fun e W' => (∃ v, e = .returned v) ∧
      ((∃ ys, ys = upBits l 256 ∧ J ys W') ∨ (∃ pre, pre <+: upBits l 256 ∧ Jx pre W')) := by
  have HB : Veil (∀ i, l.getD i 0 < 256) := ⟨hb⟩
  have HY : Veil (∀ pre x W, J pre W → pre.length < 256 → YieldAt Fence.wide (n - 1) Try.prog lp (encB x) W fun e W' =>
      (e = .returned (.bool true) ∧ J (pre ++ [x]) W' ∧ Kp W W') ∨ (e = .returned (.bool false) ∧ Jx (pre ++ [x]) W')) := ⟨hY⟩
  have HC : Veil (∀ j, j < 32 → W.cell? ⟨kb, j, none⟩ = some (.int .u8 (l.getD j 0 : Nat))) := ⟨hB⟩
  clear hb hY hB
  refine callsIn_of_wp Try.func59 rfl trivial ?_
  simp only [Try.ntmps59, List.size_toArray, List.length_cons, List.length_nil, Nat.reduceAdd, Nat.reduceSub, Array.replicate_succ, Array.replicate_zero, List.push_toArray, List.append_toArray, List.nil_append, List.cons_append]
  gi_wp2
  gi_loopw [3] (fun t wr => ∃ k : Nat, k ≤ 256 ∧ t = .int .i64 ((k : Int) - 1) ∧ J (upBits l (256 - k)) wr ∧ Veil (∀ j, j < 32 → wr.cell? ⟨kb, j, none⟩ = some (.int .u8 (l.getD j 0 : Nat)))) (fun t _ => (intOf t + 1).toNat)
  case atStart => exact ⟨256, by omega, rfl, h0, HC⟩
  case round =>
    obtain ⟨k, hk256, rfl, hJ, HCr⟩ := hrel
    cases k with
    | zero =>
      gi_wp2
      go_end0
      exact ⟨⟨_, rfl⟩, .inl ⟨_, rfl, hJ⟩⟩
    | succ k =>
      have e : ((k + 1 : Nat) : Int) - 1 = (k : Int) := by omega
      rw [e]
      clear e
      have hcell := HCr.out (k / 8) (by omega)
      have hbyte := HB.out (k / 8)
      have HV : Veil ((l.getD (k / 8) 0 / 2 ^ (k % 8) &&& 1) % 256 = bN (keyBit l k)) := ⟨keyBit_and l k⟩
      have HP : Veil (upBits l (256 - k) = upBits l (256 - (k + 1)) ++ [keyBit l k]) := ⟨by
        rw [show 256 - k = 256 - (k + 1) + 1 by omega, upBits_succ, show 255 - (256 - (k + 1)) = k by omega]⟩
      have hbn : bN (keyBit l k) < 9223372036854775808 := by unfold bN; split <;> omega
      obtain ⟨fn, tmps, assign, body, hy, hR⟩ := HY.out _ (keyBit l k) wr hJ (by rw [upBits_len]; omega)
      unfold encB at hy
      generalize l.getD (k / 8) 0 = byte at hcell hbyte HV
      have HXC : Veil (wr.cell? ⟨kb, k / 8, none⟩ = some (.int .u8 (byte : Nat))) := ⟨hcell⟩
      clear hcell
      gi_wp2_with (first | ((with_reducible show wpListIn _ _ _ _ _ (_ :: _) _ _); first | refine wi_val rfl (ex_quo_i64 rfl rfl rfl ?_ ?_) ?_ | refine wi_val rfl (ex_ixaddr1 rfl rfl rfl ?_) ?_ | refine wi_load rfl rfl rfl HXC.out ?_ | refine wi_val rfl (ex_rem_i64 rfl rfl rfl ?_) ?_ | refine wi_val rfl (ex_shr_u8 rfl rfl rfl ?_) ?_ | refine wi_val rfl (ex_and_u8V rfl rfl rfl HV.out) ?_ | refine wi_val rfl (ex_conv_i64_u8 rfl rfl ?_) ?_) <;> (first | ((with_reducible show wpListIn _ _ _ _ _ _ _ _); try simp only [Act.put, List.setIfInBounds_toArray, List.set_cons_zero, List.set_cons_succ]) | omega | (simp; done) | (simp; omega)) | fail)
      refine hR.mono ?_
      rintro e W3 (⟨rfl, hJ3, hk3⟩ | ⟨rfl, hJx3⟩)
      · have hc3 : Veil (∀ j, j < 32 → W3.cell? ⟨kb, j, none⟩ = some (.int .u8 (l.getD j 0 : Nat))) := ⟨fun j hj => (hk hk3 j).trans (HCr.out j hj)⟩
        gi_wp2
        go_roundw
        case rel => exact ⟨k, by omega, rfl, by rw [HP.out]; exact hJ3, hc3⟩
        case measure => simp [intOf] <;> omega
      · gi_wp2
        refine bodyPost_ret (results_none rfl _ _ _) rfl ?_
        exact ⟨⟨_, rfl⟩, .inr ⟨_, by rw [← HP.out]; exact upBits_prefix l (by omega), hJx3⟩⟩

/-- The iterator's contract. -/
theorem bits_stops (n : Nat) (hn : 1 ≤ n) {kb n₀ : Nat} {l : List Nat} (hl : l.length = 32) (hb : ∀ i, l.getD i 0 < 256) (hk : kb < n₀) {w : World} (hn₀ : n₀ ≤ w.heap.size) (hB : w.heap[kb]? = some (.cells (C .u8 l) 23 (0, 0))) :
    SeqStopsK Fence.wide n Try.prog 59 #[.pointer (some ⟨kb, 0, none⟩)] encB (Below n₀) (fun ys => ys = upBits l 256) (fun pre => pre <+: upBits l 256) 256 w := fun lp J Jx W hW _ _ hY h0 =>
  bits1_in n hn hl hb (fun h j => h.cell (p := ⟨kb, j, none⟩) hk) hY W (fun j hj => by
    rw [cell_of_row W kb j (C .u8 l) 23 (0, 0) (by rw [hW.block kb (by omega)]; exact hB)]
    exact C_get (by omega)) h0

/-- What a round must keep, where the key lies among the caller's own. -/
def KeepB (kb : Nat) (A B : World) : Prop := ∀ j, B.cell? ⟨kb, j, none⟩ = A.cell? ⟨kb, j, none⟩
theorem keepB_t {kb : Nat} {A B D : World} (h : KeepB kb A B) (k : KeepB kb B D) : KeepB kb A D := fun j => (k j).trans (h j)
theorem keepB_b {kb : Nat} {w : World} (hk : kb < w.heap.size) (W : World) (l : Nat) (o o' : Obj) (hl : w.heap.size ≤ l) (h : W.heap[l]? = some o) (h1 : o.isCells = false) (h2 : o.isWalk = false) : KeepB kb W (W.putObj l o') := fun j =>
  (belowK_b (Nat.le_refl _) W l o o' hl h h1 h2).cell (p := ⟨kb, j, none⟩) hk
theorem bits_stopsB (n : Nat) (hn : 1 ≤ n) {kb : Nat} {l : List Nat} (hl : l.length = 32) (hb : ∀ i, l.getD i 0 < 256) {w : World} (hB : w.heap[kb]? = some (.cells (C .u8 l) 23 (0, 0))) :
    SeqStopsK Fence.wide n Try.prog 59 #[.pointer (some ⟨kb, 0, none⟩)] encB (KeepB kb) (fun ys => ys = upBits l 256) (fun pre => pre <+: upBits l 256) 256 w := fun lp J Jx W hW _ _ hY h0 =>
  bits1_in n hn hl hb (fun h j => h j) hY W (fun j hj => by
    rw [cell_of_row W kb j (C .u8 l) 23 (0, 0) (by rw [hW.block kb (Array.getElem?_eq_some_iff.1 hB).1]; exact hB)]
    exact C_get (by omega)) h0

/-- A key's iterator. -/
abbrev itV (b : Nat) : Value := .func (.func 59) #[] #[.pointer (some ⟨b, 0, none⟩)]

theorem bits_any {l : List Nat} {W : Base} {bs : List Blk} (w : World) (hH : Has W w bs) :
    Calls Try.prog 38 #[.agg (C .u8 l)] w fun e w' => ∃ b, e = .returned (itV b) ∧ Has W w' ((b, C .u8 l, 23) :: bs) ∧ Below w.heap.size w w' ∧ w.heap.size ≤ b := by
  go_enter Try.func38, Try.ntmps38
  go_wp2
  go_ret
  exact ⟨_, rfl, hH.alloc _ _, (Below.refl _ _).alloc (Nat.le_refl _) _, Nat.le_refl _⟩

theorem bits_maker {ops : Array Oper} {o : Oper} {A : Act} {W : Base} {bs : List Blk} {l : List Nat} {c : Call} (hw : Region.wanted o (yielded ops A.tmps) = true) (ho : o.op = .call c) (hc : c.callee = .value (.func 38)) (ha : c.args.map A.eval = #[.agg (C .u8 l)]) :
    MakerOp ops o A W bs itV (C .u8 l) 23 :=
  ⟨hw, fun w hH => ⟨38, #[.agg (C .u8 l)], by rw [ex_call ho hc, ha], bits_any w hH⟩⟩

section wl
variable {ops : Array Oper} {Q : Exit → Act → World → Prop} {a : Act} {w : World} {W : Base} {rest : List Oper} {o : Oper} {bs : List Blk}
theorem wl_bits (hg : o.guard = none) {c : Call} (ho : o.op = .call c) (hc : c.callee = .value (.func 38)) {l : List Nat} (ha : c.args.map a.eval = #[.agg (C .u8 l)]) (hH : Has W w bs)
    (h : ∀ b w', Has W w' ((b, C .u8 l, 23) :: bs) → wpList Try.prog ops Q rest (a.put o.dst (itV b)) w') : wpList Try.prog ops Q (o :: rest) a w :=
  wpList_plain hg fun _ hK => by
    unfold Oper.wp
    rw [ex_call ho hc, ha]
    refine (bits_any w hH).mono ?_
    rintro e w' ⟨b, rfl, h1, _, _⟩
    exact hK _ _ (h _ _ h1)
end wl
end Go.Proofs.Ytmbbdblmengdhaa

/- Walks: Power. -/
namespace Go.Proofs.Ytmbbdblmengdhaa
open Go.RowKit

/-- A step of a power. -/
def powS (a o : List Nat) (x : Bool) : List Nat := if x then mulL (mulL o o) a else mulL o o
def powL (a : List Nat) (pre : List Bool) : List Nat := pre.foldl (powS a) (numL 1)
theorem powL_snoc (a : List Nat) (pre : List Bool) (x : Bool) : powL a (pre ++ [x]) = powS a (powL a pre) x := by simp [powL]
def powN (x : Nat) (pre : List Bool) : Nat := pre.foldl (fun o b => if b then o * o % pP * x % pP else o * o % pP) 1
theorem powN_snoc (x : Nat) (pre : List Bool) (b : Bool) : powN x (pre ++ [b]) = if b then powN x pre * powN x pre % pP * x % pP else powN x pre * powN x pre % pP := by simp [powN]
theorem pow_lim {a : List Nat} {x : Nat} (ha : Lim a x) (pre : List Bool) : Lim (powL a pre) (powN x pre) := by
  have h : ∀ (pre : List Bool) (o : List Nat) (y : Nat), Lim o y → Lim (pre.foldl (powS a) o) (pre.foldl (fun o b => if b then o * o % pP * x % pP else o * o % pP) y) := by
    intro pre
    induction pre with
    | nil => intro o y h; exact h
    | cons b pre ih =>
      intro o y h
      rw [List.foldl_cons, List.foldl_cons]
      refine ih _ _ ?_
      have h2 := mul_lim h h
      cases b with
      | true => simp only [powS, if_true]; exact mul_lim h2 ha
      | false => simp only [powS, Bool.false_eq_true, if_false]; exact h2
  have h1 := num_lim (m := 1) (by decide)
  have e1 : 1 % pP = 1 := by decide +kernel
  rw [e1] at h1
  unfold powL powN
  exact h pre _ _ h1

set_option maxRecDepth 100000 in
set_option maxHeartbeats 1000000 in
theorem power_calls {a l : List Nat} {x : Nat} (ha : Lim a x) (hl : l.length = 32) (hb : ∀ i, l.getD i 0 < 256) {kb : Nat} (w : World) (hB : w.heap[kb]? = some (.cells (C .u8 l) 23 (0, 0))) :
    Calls Try.prog 39 #[.agg (C .u64 a), itV kb] w fun e w' => e = .returned (.agg (C .u64 (powL a (upBits l 256)))) ∧ Below w.heap.size w w' := by
  have hkb : kb < w.heap.size := (Array.getElem?_eq_some_iff.1 hB).1
  have HB : Veil (∀ i, l.getD i 0 < 256) := ⟨hb⟩
  have hal := ha.len
  have h1 := small_pos (m := 1) (by unfold Lt63; decide)
  obtain ⟨W, hW⟩ : ∃ W, W = w := ⟨_, rfl⟩
  have hH := Has.nil W
  rw [← hW]
  have HBW : Veil (W.heap[kb]? = some (.cells (C .u8 l) 23 (0, 0))) := ⟨by rw [hW]; exact hB⟩
  have hkW : kb < W.heap.size := by rw [hW]; exact hkb
  clear hb hB hW hkb
  refine (callsIn_wide (n := 4)).1 ?_
  refine callsIn_of_wp_marks Try.func39 rfl trivial ?_ -- go_enter Try.func39
  simp only [Try.ntmps39, List.size_toArray, List.length_cons, List.length_nil, Nat.reduceAdd, Nat.reduceSub, Array.replicate_succ, Array.replicate_zero, List.push_toArray, List.append_toArray, List.nil_append, List.cons_append]
  refine wpIn_wide.2 ?_
  apply wp_seq_k; intro K1 hK1
  apply wp_region_lit
  refine wl_boxA rfl rfl rfl hH ?_
  clear hH; intro b1 w hH
  refine wl_allocA rfl rfl z31 hH ?_
  clear hH; intro b2 w hH
  simp only [Act.put, List.setIfInBounds_toArray, List.set_cons_zero, List.set_cons_succ]
  go_wp2_with (first | ((first | ((with_reducible show wpList _ _ _ (_ :: _) _ _); first | (refine wl_allocA rfl rfl z31 hH ?_; clear hH; intro b3 w hH) | refine wl_callc rfl rfl (f := 26) rfl (args1 _ _) (h1) hH ?_ | refine wl_loadC 0 rfl rfl rfl hH rfl ?_ ?_ | refine wl_loadC 1 rfl rfl rfl hH rfl ?_ ?_ | refine wl_loadC 2 rfl rfl rfl hH rfl ?_ ?_ | refine wl_storerowC 0 rfl rfl rfl rfl hH rfl ?_ ?_ ?_ | refine wl_storerowC 1 rfl rfl rfl rfl hH rfl ?_ ?_ ?_ | refine wl_storerowC 2 rfl rfl rfl rfl hH rfl ?_ ?_ ?_ | ((first | refine wl_val rfl (ex_move rfl rfl) ?_ | refine wl_val rfl (ex_assign rfl rfl) ?_); try simp only [Act.eval, Array.getD_eq_getD_getElem?, List.getElem?_toArray, List.getElem?_cons_succ, List.getElem?_cons_zero, Option.getD_some, Act.put, List.setIfInBounds_toArray, List.set_cons_zero, List.set_cons_succ]))) <;> (first | ((with_reducible show wpList _ _ _ _ _ _); try simp only [Act.put, List.setIfInBounds_toArray, List.set_cons_zero, List.set_cons_succ]) | ((with_reducible show wpD _ _ _ _ _ _ _); try simp only [Act.put, List.setIfInBounds_toArray, List.set_cons_zero, List.set_cons_succ]) | (with_reducible show wpN _ _ _ _ _ _) | (with_reducible show Code.wp _ _ _ _ _) | (clear hH; intro w hH; (try simp only [List.nil_append, List.cons_append] at hH); (try simp only [Act.put, List.setIfInBounds_toArray, List.set_cons_zero, List.set_cons_succ] at hH ⊢)) | first | with_reducible assumption | omega | (simp only [List.length_set, List.length_replicate]; omega) | (simp; done) | (simp; omega))) | fail)
  have hcb : ∀ w', Below W.heap.size W w' → w'.heap[kb]? = some (.cells (C .u8 l) 23 (0, 0)) := fun w' hb' => by rw [hb'.block kb hkW]; exact HBW.out
  have HDW : Veil (W.heap.size ≤ w.heap.size) := ⟨hH.below.size⟩
  refine (wpIn_wide (n := 4)).1 ?_
  refine wpIn_rangeFunc_ownF rfl (by decide) (gf := 59) (lb := #[.pointer (some ⟨kb, 0, none⟩)]) rfl trivial (enters_of Try.func59 (by kernel_rfl) rfl)
    (bits_stops (4 - 1) (by decide) hl HB.out hkW hH.below.size (hcb _ hH.below)) belowK_t (belowK_b hH.below.size) (Below.refl _ _) (fun _ => rfl)
    (fun pre w' => Has (baseW W) w' [(b3, C .u64 (powL a pre), 31), (b2, C .u64 [0, 0, 0, 0, 0], 31), (b1, C .u64 a, 31)])
    (fun _ _ _ => False)
    (has_ownFrom hH.below.size)
    (fun _ _ _ _ _ hs _ _ => hs)
    hH
    (fun x => { tmps := #[.agg (C .u64 a), itV kb, .pointer (some ⟨b1, 0, none⟩), undef, .pointer (some ⟨b2, 0, none⟩), .pointer (some ⟨b3, 0, none⟩), .int .i64 (bN x : Nat), .agg (C .u64 (numL 1)), itV kb, .int .i64 (bN x : Nat), undef, undef, undef, undef, undef, undef, undef, undef, undef], defers := [] }) ?assign ?body ?done ?stop
  case assign =>
    intro lp x w' K hK
    unfold encB
    refine region_rd letsOut_false rfl ?_
    go_wp2
    exact hK
  case body =>
    intro lp pre x w' hHI _
    have hH0 := hHI
    clear hH
    obtain ⟨hn, hH⟩ := hHI.round'
    clear hHI
    have hp := (pow_lim ha pre)
    have HPS : Veil (powL a (pre ++ [x]) = powS a (powL a pre) x) := ⟨powL_snoc a pre x⟩
    generalize powL a pre = o at hH hH0 hp HPS
    have hpl := hp.len
    have hq := mul_lim hp hp
    have r1 := mul_ret hp hp
    have HQ : Veil (mulL o o = mulL o o) := ⟨rfl⟩
    obtain ⟨q, hqe⟩ : ∃ q, q = mulL o o := ⟨_, rfl⟩
    rw [← hqe] at hq r1
    have r2 := mul_ret hq ha
    obtain ⟨r, hre⟩ : ∃ r, r = mulL q a := ⟨_, rfl⟩
    rw [← hre] at r2
    have hql := hq.len
    have hrl : r.length = 5 := by rw [hre]; simp
    have HPT : Veil (x = true → powL a (pre ++ [x]) = r) := ⟨fun e => by rw [HPS.out, e, powS, if_pos rfl, ← hqe, ← hre]⟩
    have HPF : Veil (x = false → powL a (pre ++ [x]) = q) := ⟨fun e => by rw [HPS.out, e, powS, if_neg (by simp), ← hqe]⟩
    clear hqe hre HQ HPS
    cases x with
    | true =>
      have HE : Veil (powL a (pre ++ [true]) = r) := ⟨HPT.out rfl⟩
      have eb : ((bN true : Nat) : Int) = 1 := rfl
      rw [eb]
      clear HPT HPF eb
      refine wpIn_block ?_
      apply wpIn_seq_k; intro K2 hK2
      refine region_rd (fun ⟨_, _, h⟩ => h) rfl ?_
      go_wp2_with (first | ((first | ((with_reducible show wpList _ _ _ (_ :: _) _ _); first | refine wl_callc rfl rfl (f := 23) rfl (args2 _ _ _) (r1) hH ?_ | refine wl_loadC 0 rfl rfl rfl hH rfl ?_ ?_ | refine wl_loadC 1 rfl rfl rfl hH rfl ?_ ?_ | refine wl_loadC 2 rfl rfl rfl hH rfl ?_ ?_ | refine wl_storerowC 0 rfl rfl rfl rfl hH rfl ?_ ?_ ?_ | refine wl_storerowC 1 rfl rfl rfl rfl hH rfl ?_ ?_ ?_ | refine wl_storerowC 2 rfl rfl rfl rfl hH rfl ?_ ?_ ?_ | ((first | refine wl_val rfl (ex_move rfl rfl) ?_ | refine wl_val rfl (ex_assign rfl rfl) ?_); try simp only [Act.eval, Array.getD_eq_getD_getElem?, List.getElem?_toArray, List.getElem?_cons_succ, List.getElem?_cons_zero, Option.getD_some, Act.put, List.setIfInBounds_toArray, List.set_cons_zero, List.set_cons_succ]))) <;> (first | ((with_reducible show wpList _ _ _ _ _ _); try simp only [Act.put, List.setIfInBounds_toArray, List.set_cons_zero, List.set_cons_succ]) | ((with_reducible show wpD _ _ _ _ _ _ _); try simp only [Act.put, List.setIfInBounds_toArray, List.set_cons_zero, List.set_cons_succ]) | (with_reducible show wpN _ _ _ _ _ _) | (with_reducible show Code.wp _ _ _ _ _) | (clear hH; intro w hH; (try simp only [List.nil_append, List.cons_append] at hH); (try simp only [Act.put, List.setIfInBounds_toArray, List.set_cons_zero, List.set_cons_succ] at hH ⊢)) | first | with_reducible assumption | omega | (simp only [List.length_set, List.length_replicate]; omega) | (simp; done) | (simp; omega))) | fail)
      apply wpIn_seq_k; intro K3 hK3
      refine region_rd (fun ⟨_, _, h⟩ => h) rfl ?_
      go_wp2_with (first | ((first | ((with_reducible show wpList _ _ _ (_ :: _) _ _); first | refine wl_val rfl (ex_neN rfl rfl rfl) ?_ | refine wl_loadC 0 rfl rfl rfl hH rfl ?_ ?_ | refine wl_loadC 1 rfl rfl rfl hH rfl ?_ ?_ | refine wl_loadC 2 rfl rfl rfl hH rfl ?_ ?_ | refine wl_storerowC 0 rfl rfl rfl rfl hH rfl ?_ ?_ ?_ | refine wl_storerowC 1 rfl rfl rfl rfl hH rfl ?_ ?_ ?_ | refine wl_storerowC 2 rfl rfl rfl rfl hH rfl ?_ ?_ ?_ | ((first | refine wl_val rfl (ex_move rfl rfl) ?_ | refine wl_val rfl (ex_assign rfl rfl) ?_); try simp only [Act.eval, Array.getD_eq_getD_getElem?, List.getElem?_toArray, List.getElem?_cons_succ, List.getElem?_cons_zero, Option.getD_some, Act.put, List.setIfInBounds_toArray, List.set_cons_zero, List.set_cons_succ]))) <;> (first | ((with_reducible show wpList _ _ _ _ _ _); try simp only [Act.put, List.setIfInBounds_toArray, List.set_cons_zero, List.set_cons_succ]) | ((with_reducible show wpD _ _ _ _ _ _ _); try simp only [Act.put, List.setIfInBounds_toArray, List.set_cons_zero, List.set_cons_succ]) | (with_reducible show wpN _ _ _ _ _ _) | (with_reducible show Code.wp _ _ _ _ _) | (clear hH; intro w hH; (try simp only [List.nil_append, List.cons_append] at hH); (try simp only [Act.put, List.setIfInBounds_toArray, List.set_cons_zero, List.set_cons_succ] at hH ⊢)) | first | with_reducible assumption | omega | (simp only [List.length_set, List.length_replicate]; omega) | (simp; done) | (simp; omega))) | fail)
      refine wpIn_cond_true rfl ?_
      refine region_rd (fun ⟨_, _, h⟩ => h) rfl ?_
      go_wp2_with (first | ((first | ((with_reducible show wpList _ _ _ (_ :: _) _ _); first | refine wl_callc rfl rfl (f := 23) rfl (args2 _ _ _) (r2) hH ?_ | refine wl_loadC 0 rfl rfl rfl hH rfl ?_ ?_ | refine wl_loadC 1 rfl rfl rfl hH rfl ?_ ?_ | refine wl_loadC 2 rfl rfl rfl hH rfl ?_ ?_ | refine wl_storerowC 0 rfl rfl rfl rfl hH rfl ?_ ?_ ?_ | refine wl_storerowC 1 rfl rfl rfl rfl hH rfl ?_ ?_ ?_ | refine wl_storerowC 2 rfl rfl rfl rfl hH rfl ?_ ?_ ?_ | ((first | refine wl_val rfl (ex_move rfl rfl) ?_ | refine wl_val rfl (ex_assign rfl rfl) ?_); try simp only [Act.eval, Array.getD_eq_getD_getElem?, List.getElem?_toArray, List.getElem?_cons_succ, List.getElem?_cons_zero, Option.getD_some, Act.put, List.setIfInBounds_toArray, List.set_cons_zero, List.set_cons_succ]))) <;> (first | ((with_reducible show wpList _ _ _ _ _ _); try simp only [Act.put, List.setIfInBounds_toArray, List.set_cons_zero, List.set_cons_succ]) | ((with_reducible show wpD _ _ _ _ _ _ _); try simp only [Act.put, List.setIfInBounds_toArray, List.set_cons_zero, List.set_cons_succ]) | (with_reducible show wpN _ _ _ _ _ _) | (with_reducible show Code.wp _ _ _ _ _) | (clear hH; intro w hH; (try simp only [List.nil_append, List.cons_append] at hH); (try simp only [Act.put, List.setIfInBounds_toArray, List.set_cons_zero, List.set_cons_succ] at hH ⊢)) | first | with_reducible assumption | omega | (simp only [List.length_set, List.length_replicate]; omega) | (simp; done) | (simp; omega))) | fail)
      refine ⟨hH.good.1, hH.good.2, ?_⟩
      have := hH0.unround hH
      rw [← HE.out] at this
      exact this
    | false =>
      have HE : Veil (powL a (pre ++ [false]) = q) := ⟨HPF.out rfl⟩
      have eb : ((bN false : Nat) : Int) = 0 := rfl
      rw [eb]
      clear HPT HPF eb
      refine wpIn_block ?_
      apply wpIn_seq_k; intro K2 hK2
      refine region_rd (fun ⟨_, _, h⟩ => h) rfl ?_
      go_wp2_with (first | ((first | ((with_reducible show wpList _ _ _ (_ :: _) _ _); first | refine wl_callc rfl rfl (f := 23) rfl (args2 _ _ _) (r1) hH ?_ | refine wl_loadC 0 rfl rfl rfl hH rfl ?_ ?_ | refine wl_loadC 1 rfl rfl rfl hH rfl ?_ ?_ | refine wl_loadC 2 rfl rfl rfl hH rfl ?_ ?_ | refine wl_storerowC 0 rfl rfl rfl rfl hH rfl ?_ ?_ ?_ | refine wl_storerowC 1 rfl rfl rfl rfl hH rfl ?_ ?_ ?_ | refine wl_storerowC 2 rfl rfl rfl rfl hH rfl ?_ ?_ ?_ | ((first | refine wl_val rfl (ex_move rfl rfl) ?_ | refine wl_val rfl (ex_assign rfl rfl) ?_); try simp only [Act.eval, Array.getD_eq_getD_getElem?, List.getElem?_toArray, List.getElem?_cons_succ, List.getElem?_cons_zero, Option.getD_some, Act.put, List.setIfInBounds_toArray, List.set_cons_zero, List.set_cons_succ]))) <;> (first | ((with_reducible show wpList _ _ _ _ _ _); try simp only [Act.put, List.setIfInBounds_toArray, List.set_cons_zero, List.set_cons_succ]) | ((with_reducible show wpD _ _ _ _ _ _ _); try simp only [Act.put, List.setIfInBounds_toArray, List.set_cons_zero, List.set_cons_succ]) | (with_reducible show wpN _ _ _ _ _ _) | (with_reducible show Code.wp _ _ _ _ _) | (clear hH; intro w hH; (try simp only [List.nil_append, List.cons_append] at hH); (try simp only [Act.put, List.setIfInBounds_toArray, List.set_cons_zero, List.set_cons_succ] at hH ⊢)) | first | with_reducible assumption | omega | (simp only [List.length_set, List.length_replicate]; omega) | (simp; done) | (simp; omega))) | fail)
      apply wpIn_seq_k; intro K3 hK3
      refine region_rd (fun ⟨_, _, h⟩ => h) rfl ?_
      go_wp2_with (first | ((first | ((with_reducible show wpList _ _ _ (_ :: _) _ _); first | refine wl_val rfl (ex_neN rfl rfl rfl) ?_ | refine wl_loadC 0 rfl rfl rfl hH rfl ?_ ?_ | refine wl_loadC 1 rfl rfl rfl hH rfl ?_ ?_ | refine wl_loadC 2 rfl rfl rfl hH rfl ?_ ?_ | refine wl_storerowC 0 rfl rfl rfl rfl hH rfl ?_ ?_ ?_ | refine wl_storerowC 1 rfl rfl rfl rfl hH rfl ?_ ?_ ?_ | refine wl_storerowC 2 rfl rfl rfl rfl hH rfl ?_ ?_ ?_ | ((first | refine wl_val rfl (ex_move rfl rfl) ?_ | refine wl_val rfl (ex_assign rfl rfl) ?_); try simp only [Act.eval, Array.getD_eq_getD_getElem?, List.getElem?_toArray, List.getElem?_cons_succ, List.getElem?_cons_zero, Option.getD_some, Act.put, List.setIfInBounds_toArray, List.set_cons_zero, List.set_cons_succ]))) <;> (first | ((with_reducible show wpList _ _ _ _ _ _); try simp only [Act.put, List.setIfInBounds_toArray, List.set_cons_zero, List.set_cons_succ]) | ((with_reducible show wpD _ _ _ _ _ _ _); try simp only [Act.put, List.setIfInBounds_toArray, List.set_cons_zero, List.set_cons_succ]) | (with_reducible show wpN _ _ _ _ _ _) | (with_reducible show Code.wp _ _ _ _ _) | (clear hH; intro w hH; (try simp only [List.nil_append, List.cons_append] at hH); (try simp only [Act.put, List.setIfInBounds_toArray, List.set_cons_zero, List.set_cons_succ] at hH ⊢)) | first | with_reducible assumption | omega | (simp only [List.length_set, List.length_replicate]; omega) | (simp; done) | (simp; omega))) | fail)
      refine wpIn_cond_false rfl ?_
      refine wpIn_skip ?_
      refine ⟨hH.good.1, hH.good.2, ?_⟩
      have := hH0.unround hH
      rw [← HE.out] at this
      exact this
  case done =>
    intro D ys w' hD hys hHI hK
    subst hys
    clear hH
    have hH := hHI
    clear hHI
    have hDW : W.heap.size ≤ D := by
      have := HDW.out
      omega
    have hrl := (pow_lim ha (upBits l 256)).len
    obtain ⟨r, hr⟩ : ∃ r, r = powL a (upBits l 256) := ⟨_, rfl⟩
    rw [← hr] at hH hrl
    have HR : Veil (r = powL a (upBits l 256)) := ⟨hr⟩
    clear hr
    have hH0 := hH
    clear hH
    obtain ⟨hn, hH⟩ := hH0.round'
    have HKD : Veil (w'.heap[D]? = some (.deferred (some []))) := ⟨hK⟩
    clear hK
    go_wp2_with (first | ((first | ((with_reducible show wpList _ _ _ (_ :: _) _ _); first | refine wl_loadC 0 rfl rfl rfl hH rfl ?_ ?_ | refine wl_loadC 1 rfl rfl rfl hH rfl ?_ ?_ | refine wl_loadC 2 rfl rfl rfl hH rfl ?_ ?_ | refine wl_storerowC 0 rfl rfl rfl rfl hH rfl ?_ ?_ ?_ | refine wl_storerowC 1 rfl rfl rfl rfl hH rfl ?_ ?_ ?_ | refine wl_storerowC 2 rfl rfl rfl rfl hH rfl ?_ ?_ ?_ | ((first | refine wl_val rfl (ex_move rfl rfl) ?_ | refine wl_val rfl (ex_assign rfl rfl) ?_); try simp only [Act.eval, Array.getD_eq_getD_getElem?, List.getElem?_toArray, List.getElem?_cons_succ, List.getElem?_cons_zero, Option.getD_some, Act.put, List.setIfInBounds_toArray, List.set_cons_zero, List.set_cons_succ]))) <;> (first | ((with_reducible show wpList _ _ _ _ _ _); try simp only [Act.put, List.setIfInBounds_toArray, List.set_cons_zero, List.set_cons_succ]) | ((with_reducible show wpD _ _ _ _ _ _ _); try simp only [Act.put, List.setIfInBounds_toArray, List.set_cons_zero, List.set_cons_succ]) | (with_reducible show wpN _ _ _ _ _ _) | (with_reducible show Code.wp _ _ _ _ _) | (clear hH; intro w hH; (try simp only [List.nil_append, List.cons_append] at hH); (try simp only [Act.put, List.setIfInBounds_toArray, List.set_cons_zero, List.set_cons_succ] at hH ⊢)) | first | with_reducible assumption | omega | (simp only [List.length_set, List.length_replicate]; omega) | (simp; done) | (simp; omega))) | fail)
    exact ret_mark 1 rfl rfl (hH0.unround hH) rfl (by rw [C_size]; exact hrl) rfl (hH.good.1.same D _ HKD.out rfl) hDW (fun _ h => ⟨by rw [HR.out], h⟩)
  case stop =>
    intro D c pre w' _ _ h _
    exact h.elim

/-- Power by a key's bits, where the caller holds the key's block. -/
theorem power_has {a l : List Nat} {x : Nat} (ha : Lim a x) (hl : l.length = 32) (hb : ∀ i, l.getD i 0 < 256) {W : Base} {bs : List Blk} (i : Nat) {kb : Nat} (hi : bs[i]? = some (kb, C .u8 l, 23)) :
    RetH W bs 39 #[.agg (C .u64 a), itV kb] (.agg (C .u64 (powL a (upBits l 256)))) :=
  ⟨fun w hH => power_calls ha hl hb w (hH.get hi)⟩
end Go.Proofs.Ytmbbdblmengdhaa
