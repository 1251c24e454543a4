/- Walks: Mul64, plus, Add, Sub. -/
import Derived.Test.YtmbbdblmengdhaaA1
import Derived.Lib.Mul64
import Derived.Laws.Bits64b
import Derived.Shelf.Bits.Mul64
set_option linter.unusedSimpArgs false
set_option linter.unusedVariables false
namespace Go.Proofs.Ytmbbdblmengdhaa
open Go.RowKit

set_option maxHeartbeats 1000000 in
theorem mul64_any {x y : Nat} (hx : x < 18446744073709551616) (hy : y < 18446744073709551616) :
    Ret 53 #[.int .u64 (x : Int), .int .u64 (y : Int)] (.tuple #[.int .u64 ((x * y / 18446744073709551616 : Nat) : Int), .int .u64 ((x * y % 18446744073709551616 : Nat) : Int)]) := by
  refine ⟨fun w => ?_⟩
  obtain ⟨bd, bt, bw, hhi⟩ := Lib.mul64_hi x y hx hy
  have ba := Lib.half_mul_le (a := x / 4294967296) (b := y / 4294967296) (by omega) (by omega)
  have bb := Lib.half_mul_le (a := x / 4294967296) (b := y % 4294967296) (by omega) (by omega)
  have bc := Lib.half_mul_le (a := x % 4294967296) (b := y / 4294967296) (by omega) (by omega)
  have ba' : x / 4294967296 * (y / 4294967296) < 18446744073709551616 := by omega
  have bb' : x / 4294967296 * (y % 4294967296) < 18446744073709551616 := by omega
  have bc' : x % 4294967296 * (y / 4294967296) < 18446744073709551616 := by omega
  have bh1 : x / 4294967296 * (y / 4294967296) + (x / 4294967296 * (y % 4294967296) + x % 4294967296 * (y % 4294967296) / 4294967296) / 4294967296 < 18446744073709551616 := by omega
  have bh : x / 4294967296 * (y / 4294967296) + (x / 4294967296 * (y % 4294967296) + x % 4294967296 * (y % 4294967296) / 4294967296) / 4294967296 + ((x / 4294967296 * (y % 4294967296) + x % 4294967296 * (y % 4294967296) / 4294967296) % 4294967296 + x % 4294967296 * (y / 4294967296)) / 4294967296 < 18446744073709551616 := by omega
  go_enter Try.func53, Try.ntmps53
  go_wp2
  simp only [Mul64.maskN x hx, Mul64.maskN y hy, Mul64.divN, Mul64.mulN, Mul64.addN, Mul64.wrapN _ bd, Mul64.wrapN _ bb', Mul64.wrapN _ bt, Mul64.maskN _ bt, Mul64.wrapN _ bc', Mul64.wrapN _ bw, Mul64.wrapN _ ba', Mul64.wrapN _ bh1, Mul64.wrapN _ bh, Mul64.wrapM (x * y)]
  rw [hhi]
  go_ret2
  exact ⟨rfl, Below.refl _ _⟩

section ex
variable {a : Act} {o : Oper} {w W : World} {bs : List Blk}

theorem run52 (x y : Nat) (w : World) : (callFunc 52 #[.int .u64 (x : Int), .int .u64 (y : Int), .int .u64 0]).run Try.prog w =
    .ok (.value (.tuple #[.int .u64 (((x + y) % 18446744073709551616 : Nat) : Int), .int .u64 (((x + y) / 18446744073709551616 : Nat) : Int)])) w := by
  rw [run_callFunc_extern (e := add64Entry) Try.func52 (by kernel_rfl) (by kernel_rfl) (by kernel_rfl) (by kernel_rfl), run_add64 _ _ _ (by omega) (by omega) (by omega) (by omega)]
  simp

/-- bits.Add64(x, y, 0). -/
theorem ex_add64 {c : Call} (ho : o.op = .call c) (hc : c.callee = .value (.func 52)) {args : Array Value} (ha : c.args.map a.eval = args) {x y : Nat} (he : args = #[.int .u64 (x : Int), .int .u64 (y : Int), .int .u64 0]) (w : World) :
    (execOp a.eval o).run Try.prog w = .ok (.value (.tuple #[.int .u64 (((x + y) % 18446744073709551616 : Nat) : Int), .int .u64 (((x + y) / 18446744073709551616 : Nat) : Int)])) w := by
  unfold execOp
  simp only [ho, resolve, hc, ha, he]
  have : (invoke (.fn (.func 52) #[]) #[.int .u64 (x : Int), .int .u64 (y : Int), .int .u64 0]).run Try.prog w = _ := run52 x y w
  simpa [Act.eval, Deferred.ofValue] using this

end ex

/-! ### plus -/
def plusL (l : List Nat) (off x y : Nat) : List Nat :=
  (l.set (off + 1) ((l.getD (off + 1) 0 + x * y % 18446744073709551616) % 18446744073709551616)).set off
    (((l.set (off + 1) ((l.getD (off + 1) 0 + x * y % 18446744073709551616) % 18446744073709551616)).getD off 0 + (x * y / 18446744073709551616 + (l.getD (off + 1) 0 + x * y % 18446744073709551616) / 18446744073709551616) % 18446744073709551616) % 18446744073709551616)
theorem plusL_len (l : List Nat) (off x y : Nat) : (plusL l off x y).length = l.length := by simp [plusL]

set_option maxRecDepth 100000 in
set_option maxHeartbeats 1000000 in
theorem plus_any {l : List Nat} {off x y : Nat} (hx : x < 18446744073709551616) (hy : y < 18446744073709551616) (hoff : off + 1 < l.length) {W : World} {bs : List Blk} {b : Nat} {T : TypeId} (w : World) (hH : Has W w ((b, C .u64 l, T) :: bs)) :
    Calls Try.prog 51 #[.pointer (some ⟨b, off, none⟩), .int .u64 (x : Int), .int .u64 (y : Int)] w fun e w' => e = .returned (.tuple #[]) ∧ Has W w' ((b, C .u64 (plusL l off x y), T) :: bs) := by
  go_enter Try.func51, Try.ntmps51
  go_wp2_with (first | ((first | ((with_reducible show wpList _ _ _ (_ :: _) _ _); first | refine wl_callc rfl rfl (f := 53) rfl (args2 _ _ _) (mul64_any ?_ ?_) hH ?_ | refine wl_load 0 rfl rfl rfl hH rfl (C_get ?_) ?_ | refine wl_storeC 0 rfl rfl rfl rfl hH rfl ?_ ?_ | refine wl_val rfl (ex_add_u64 rfl rfl rfl) ?_ | ((first | refine wl_val rfl (ex_move rfl rfl) ?_ | refine wl_val rfl (ex_assign rfl rfl) ?_ | refine wl_val rfl (ex_extract rfl rfl rfl) ?_); try simp only [Act.eval, Array.getD_eq_getD_getElem?, List.getElem?_toArray, List.getElem?_cons_succ, List.getElem?_cons_zero, Option.getD_some, Act.put, List.setIfInBounds_toArray, List.set_cons_zero, List.set_cons_succ])) | (((with_reducible show wpList _ _ _ ({ dst := _, op := Op.call { callee := Callee.value (Operand.func 52), args := _, argTypes := _ }, type := _, pos := _, after := _, guard := none } :: _) _ _); (refine wl_val rfl (ex_add64 rfl rfl (args3 _ _ _ _) rfl) ?_); simp only [Act.put, List.setIfInBounds_toArray, List.set_cons_zero, List.set_cons_succ]))) <;> (first | ((with_reducible show wpList _ _ _ _ _ _); try simp only [Act.put, List.setIfInBounds_toArray, List.set_cons_zero, List.set_cons_succ]) | ((with_reducible show wpD _ _ _ _ _ _ _); try simp only [Act.put, List.setIfInBounds_toArray, List.set_cons_zero, List.set_cons_succ]) | (with_reducible show wpN _ _ _ _ _ _) | (with_reducible show Code.wp _ _ _ _ _) | (clear hH; intro w hH; (try simp only [List.nil_append, List.cons_append] at hH); (try simp only [Act.put, List.setIfInBounds_toArray, List.set_cons_zero, List.set_cons_succ] at hH ⊢)) | first | with_reducible assumption | omega | (simp only [List.length_set, List.length_replicate]; omega) | (simp; done) | (simp; omega))) | fail)
  go_end0
  refine ⟨rfl, ?_⟩
  simpa [plusL] using hH
end Go.Proofs.Ytmbbdblmengdhaa
