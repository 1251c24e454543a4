/- Walks: Small. -/
import Derived.Test.YtmbbdblmengdhaaA5
set_option linter.unusedSimpArgs false
set_option linter.unusedVariables false
namespace Go.Proofs.Ytmbbdblmengdhaa
open Go.RowKit

def numL (m : Nat) : List Nat := [m % 2251799813685248, m / 2 ^ 51, 0, 0, 0]
@[simp] theorem numL_len (m : Nat) : (numL m).length = 5 := rfl
theorem small_bd {m : Nat} (hm : m < 9223372036854775808) : ∀ i, (numL m).getD i 0 ≤ 9007199254740916 := by
  intro i
  match i with
  | 0 => show m % 2251799813685248 ≤ _; omega
  | 1 => show m / 2 ^ 51 ≤ _; omega
  | 2 => exact Nat.zero_le _
  | 3 => exact Nat.zero_le _
  | 4 => exact Nat.zero_le _
  | n + 5 => exact Nat.zero_le _
theorem one_bd : ∀ i, ([1, 0, 0, 0, 0] : List Nat).getD i 0 ≤ 9007199254740916 := by
  intro i
  match i with
  | 0 => show 1 ≤ _; omega
  | 1 => exact Nat.zero_le _
  | 2 => exact Nat.zero_le _
  | 3 => exact Nat.zero_le _
  | 4 => exact Nat.zero_le _
  | n + 5 => exact Nat.zero_le _

def Lt63 (m : Nat) : Prop := m < 9223372036854775808

set_option maxRecDepth 100000 in
set_option maxHeartbeats 800000 in
theorem small_pos {m : Nat} (hm : Lt63 m) : Ret 26 #[.int .i64 (m : Int)] (.agg (C .u64 (numL m))) := by
  refine ⟨fun w => ?_⟩
  obtain ⟨W, hW⟩ : ∃ W, W = w := ⟨_, rfl⟩
  have hH := Has.nil W
  rw [← hW]
  clear hW
  go_enter Try.func26, Try.ntmps26
  apply wp_seq_k; intro K1 hK1
  apply wp_region_lit
  refine wl_allocA rfl rfl z31 hH ?_
  clear hH; intro b1 w hH
  simp only [Act.put, List.setIfInBounds_toArray, List.set_cons_zero, List.set_cons_succ]
  have hm64 : m < 18446744073709551616 := by unfold Lt63 at hm; omega
  have HM := Lib.hid hm64
  clear hm64
  go_wp2_with (first | ((first | ((with_reducible show wpList _ _ _ (_ :: _) _ _); first | refine wl_storerowC 0 rfl rfl rfl rfl hH rfl ?_ ?_ ?_ | refine wl_val rfl (ex_mask_u64 rfl rfl rfl) ?_ | refine wl_val rfl (ex_and_u64 rfl rfl rfl) ?_ | refine wl_val rfl (ex_shr_u64 rfl rfl rfl ?_) ?_ | refine wl_val rfl (ex_build rfl (b29_5 _ _ _ _ _)) ?_ | refine wl_val rfl (ex_build rfl (b29_2 _ _)) ?_ | refine wl_val rfl (ex_build rfl (b29_1 _)) ?_ | refine wl_val rfl (ex_build rfl (b31_0)) ?_ | refine wl_val rfl (ex_build rfl (b31_1 ?_)) ?_ | ((first | refine wl_val rfl (ex_move rfl rfl) ?_ | refine wl_val rfl (ex_assign rfl rfl) ?_); try simp only [Act.eval, Array.getD_eq_getD_getElem?, List.getElem?_toArray, List.getElem?_cons_succ, List.getElem?_cons_zero, Option.getD_some, Act.put, List.setIfInBounds_toArray, List.set_cons_zero, List.set_cons_succ])) | (((with_reducible show wpList _ _ _ ({ dst := _, op := Op.convert 3 28 _, type := _, pos := _, after := _, guard := none } :: _) _ _); (refine wl_val rfl (ex_conv_u64_i64 rfl rfl HM.out) ?_); simp only [Act.put, List.setIfInBounds_toArray, List.set_cons_zero, List.set_cons_succ]))) <;> (first | ((with_reducible show wpList _ _ _ _ _ _); try simp only [Act.put, List.setIfInBounds_toArray, List.set_cons_zero, List.set_cons_succ]) | ((with_reducible show wpD _ _ _ _ _ _ _); try simp only [Act.put, List.setIfInBounds_toArray, List.set_cons_zero, List.set_cons_succ]) | (with_reducible show wpN _ _ _ _ _ _) | (with_reducible show Code.wp _ _ _ _ _) | (clear hH; intro w hH; (try simp only [List.nil_append, List.cons_append] at hH); (try simp only [Act.put, List.setIfInBounds_toArray, List.set_cons_zero, List.set_cons_succ] at hH ⊢)) | first | with_reducible assumption | omega | (simp only [List.length_set, List.length_replicate]; omega) | (simp; done) | (simp; omega))) | fail)
  refine ret_cell 0 rfl rfl hH rfl rfl rfl ⟨rfl, hH.below⟩

theorem ex_conv_neg {a : Act} {o : Oper} {x : Operand} (ho : o.op = .convert 3 28 x) {z : Int} (hx : a.eval x = .int .i64 z) {m : Nat} (hz : z = (m : Int)) (hm : m < 18446744073709551616) (w : World) :
    (execOp a.eval o).run Try.prog w = .ok (.value (.int .u64 (m : Int))) w := ex_conv_u64_i64 ho (by rw [hx, hz]) hm w

set_option maxRecDepth 100000 in
set_option maxHeartbeats 800000 in
theorem small_neg {m : Nat} (hm : Lt63 m) {n : Int} (hn : n = -(m : Int) - 1) : Ret 26 #[.int .i64 n] (.agg (C .u64 (subL (subL [0, 0, 0, 0, 0] (numL m)) [1, 0, 0, 0, 0]))) := by
  have hlo : -9223372036854775808 ≤ n := by unfold Lt63 at hm; omega
  have hneg : n < 0 := by omega
  have hz : -(n + 1) = (m : Int) := by omega
  have HZ := Lib.hid hz
  have HL := Lib.hid hlo
  clear hz hn hlo
  have hm64 : m < 18446744073709551616 := by unfold Lt63 at hm; omega
  have HM := Lib.hid hm64
  clear hm64
  have hw1 : IntKind.i64.wrap (n + 1) = n + 1 := IntWalk.i64_in _ ⟨by have := HL.out; omega, by omega⟩
  have hw2 : IntKind.i64.wrap (-(n + 1)) = -(n + 1) := IntWalk.i64_in _ ⟨by have := HL.out; omega, by have := HL.out; omega⟩
  refine ⟨fun w => ?_⟩
  obtain ⟨W, hW⟩ : ∃ W, W = w := ⟨_, rfl⟩
  have hH := Has.nil W
  rw [← hW]
  clear hW
  go_enter Try.func26, Try.ntmps26
  apply wp_seq_k; intro K1 hK1
  apply wp_region_lit
  refine wl_allocA rfl rfl z31 hH ?_
  clear hH; intro b1 w hH
  simp only [Act.put, List.setIfInBounds_toArray, List.set_cons_zero, List.set_cons_succ]
  go_wp2_with (first | ((first | ((with_reducible show wpList _ _ _ (_ :: _) _ _); first | refine wl_callc rfl (show _ = Op.call { callee := _, args := #[Operand.tmp 11, Operand.tmp 17], argTypes := _ } from rfl) (f := 35) rfl (args2 _ _ _) (sub_any rfl rfl (small_bd hm)) hH ?_ | refine wl_callc rfl (show _ = Op.call { callee := _, args := #[Operand.tmp 18, Operand.tmp 20], argTypes := _ } from rfl) (f := 35) rfl (args2 _ _ _) (sub_any ?_ rfl one_bd) hH ?_ | refine wl_storerowC 0 rfl rfl rfl rfl hH rfl ?_ ?_ ?_ | refine wl_val rfl (ex_mask_u64 rfl rfl rfl) ?_ | refine wl_val rfl (ex_and_u64 rfl rfl rfl) ?_ | refine wl_val rfl (ex_shr_u64 rfl rfl rfl ?_) ?_ | refine wl_val rfl (ex_build rfl (b29_5 _ _ _ _ _)) ?_ | refine wl_val rfl (ex_build rfl (b29_2 _ _)) ?_ | refine wl_val rfl (ex_build rfl (b29_1 _)) ?_ | refine wl_val rfl (ex_build rfl (b31_0)) ?_ | refine wl_val rfl (ex_build rfl (b31_1 ?_)) ?_ | ((first | refine wl_val rfl (ex_move rfl rfl) ?_ | refine wl_val rfl (ex_assign rfl rfl) ?_); try simp only [Act.eval, Array.getD_eq_getD_getElem?, List.getElem?_toArray, List.getElem?_cons_succ, List.getElem?_cons_zero, Option.getD_some, Act.put, List.setIfInBounds_toArray, List.set_cons_zero, List.set_cons_succ])) | (((with_reducible show wpList _ _ _ ({ dst := _, op := Op.convert 3 28 _, type := _, pos := _, after := _, guard := none } :: _) _ _); (refine wl_val rfl (ex_conv_neg rfl rfl HZ.out HM.out) ?_); simp only [Act.put, List.setIfInBounds_toArray, List.set_cons_zero, List.set_cons_succ]))) <;> (first | ((with_reducible show wpList _ _ _ _ _ _); try simp only [Act.put, List.setIfInBounds_toArray, List.set_cons_zero, List.set_cons_succ]) | ((with_reducible show wpD _ _ _ _ _ _ _); try simp only [Act.put, List.setIfInBounds_toArray, List.set_cons_zero, List.set_cons_succ]) | (with_reducible show wpN _ _ _ _ _ _) | (with_reducible show Code.wp _ _ _ _ _) | (clear hH; intro w hH; (try simp only [List.nil_append, List.cons_append] at hH); (try simp only [Act.put, List.setIfInBounds_toArray, List.set_cons_zero, List.set_cons_succ] at hH ⊢)) | first | with_reducible assumption | omega | (simp only [List.length_set, List.length_replicate]; omega) | (simp; done) | (simp; omega))) | fail)
  refine ret_cell 0 rfl rfl hH rfl ?_ rfl ⟨rfl, hH.below⟩
  rw [C_size]; simp
end Go.Proofs.Ytmbbdblmengdhaa
