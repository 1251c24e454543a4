/- Walks. -/
import Derived.Test.YtmbbdblmengdhaaB1
set_option linter.unusedSimpArgs false
set_option linter.unusedVariables false
namespace Go.Proofs.Ytmbbdblmengdhaa
open Go.RowKit

def cStep (s : List Nat × Nat) (i : Nat) : List Nat × Nat :=
  (s.1.set i ((s.1.getD i 0 + s.2) % 18446744073709551616 % 2251799813685248), (s.1.getD i 0 + s.2) % 18446744073709551616 / 2 ^ 51)
def cRun (s : List Nat × Nat) : Nat → List Nat × Nat
  | 0 => s
  | k + 1 => cStep (cRun s k) k
def pass (l : List Nat) : List Nat :=
  (cRun (l, 0) 5).1.set 0 (((cRun (l, 0) 5).1.getD 0 0 + 19 * (cRun (l, 0) 5).2 % 18446744073709551616) % 18446744073709551616)
def carryL (l : List Nat) : List Nat := pass (pass l)
def passes (l : List Nat) : Nat → List Nat
  | 0 => l
  | k + 1 => pass (passes l k)
theorem cRun_len (l : List Nat) (c k : Nat) : (cRun (l, c) k).1.length = l.length := by
  induction k with
  | zero => rfl
  | succ k ih => simp [cRun, cStep, ih]
theorem pass_len (l : List Nat) : (pass l).length = l.length := by simp [pass, cRun_len]
theorem passes_len (l : List Nat) (k : Nat) : (passes l k).length = l.length := by
  induction k with
  | zero => rfl
  | succ k ih => simp [passes, pass_len, ih]


@[simp] theorem carryL_len (l : List Nat) : (carryL l).length = l.length := by simp [carryL, pass_len]

set_option maxRecDepth 100000 in
set_option maxHeartbeats 4000000 in
theorem carry_any {l : List Nat} (hl : l.length = 5) : Ret 54 #[.agg (C .u64 l)] (.agg (C .u64 (carryL l))) := by
  refine ⟨fun w => ?_⟩
  obtain ⟨W, hW⟩ : ∃ W, W = w := ⟨_, rfl⟩
  have hH := Has.nil W
  rw [← hW]
  clear hW
  go_enter Try.func54, Try.ntmps54
  apply wp_seq_k; intro K1 hK1
  apply wp_region_lit
  refine wl_box rfl rfl rfl hH ?_
  clear hH; intro b1 w1 hH
  refine wl_alloc rfl rfl z31 hH ?_
  clear hH; intro b2 w2 hH
  simp only [Value.cells, Act.put, List.setIfInBounds_toArray, List.set_cons_zero, List.set_cons_succ] at hH ⊢
  go_wp2_with fail
  go_loopw [5] (fun r wr => ∃ j : Nat, j ≤ 2 ∧ r = .int .i64 j ∧ Has W wr [(b2, C .u64 [0,0,0,0,0], 31), (b1, C .u64 (passes l j), 31)]) (fun r _ => 2 - (intOf r).toNat)
  case atStart => exact ⟨0, by omega, rfl, hH⟩
  case round =>
    clear hH
    obtain ⟨j, hj, rfl, hH⟩ := hrel
    have hlj := passes_len l j
    by_cases hlt : j < 2
    · go_wp2_with fail
      go_loopw [3, 7] (fun c i wr => ∃ k : Nat, k ≤ 5 ∧ i = .int .i64 k ∧ c = .int .u64 ((cRun (passes l j, 0) k).2 : Nat) ∧ Has W wr [(b2, C .u64 [0,0,0,0,0], 31), (b1, C .u64 (cRun (passes l j, 0) k).1, 31)]) (fun _ i _ => 5 - (intOf i).toNat)
      case atStart => exact ⟨0, by omega, rfl, rfl, hH⟩
      case round =>
        clear hH
        obtain ⟨k, hk, rfl, rfl, hH⟩ := hrel
        have hlk := cRun_len (passes l j) 0 k
        by_cases hlt : k < 5
        · go_wp2_with (first | ((first | ((with_reducible show wpList _ _ _ (_ :: _) _ _); first | ((with_reducible show wpList _ _ _ (⟨_, Op.load 28 _, _, _, _, _⟩ :: _) _ _); first | refine wl_load 0 rfl rfl rfl hH rfl (C_get ?_) ?_ | refine wl_load 1 rfl rfl rfl hH rfl (C_get ?_) ?_) | ((with_reducible show wpList _ _ _ (⟨_, Op.load 31 _, _, _, _, _⟩ :: _) _ _); first | refine wl_loadC 0 rfl rfl rfl hH rfl ?_ ?_ | refine wl_loadC 1 rfl rfl rfl hH rfl ?_ ?_) | ((with_reducible show wpList _ _ _ (⟨_, Op.store 28 _ _, _, _, _, _⟩ :: _) _ _); first | refine wl_storeC 0 rfl rfl rfl rfl hH rfl ?_ ?_ | refine wl_storeC 1 rfl rfl rfl rfl hH rfl ?_ ?_) | ((with_reducible show wpList _ _ _ (⟨_, Op.store 31 _ _, _, _, _, _⟩ :: _) _ _); first | refine wl_storerowC 0 rfl rfl rfl rfl hH rfl ?_ ?_ ?_ | refine wl_storerowC 1 rfl rfl rfl rfl hH rfl ?_ ?_ ?_) | refine wl_val rfl (ex_mask_u64 rfl rfl rfl) ?_ | refine wl_val rfl (ex_and_u64 rfl rfl rfl) ?_ | refine wl_val rfl (ex_add_u64 rfl rfl rfl) ?_ | refine wl_val rfl (ex_mul_u64 rfl rfl rfl) ?_ | refine wl_val rfl (ex_shr_u64 rfl rfl rfl ?_) ?_ | refine wl_val rfl (ex_ixaddr1 rfl rfl rfl ?_) ?_ | ((first | refine wl_val rfl (ex_move rfl rfl) ?_ | refine wl_val rfl (ex_assign rfl rfl) ?_); try simp only [Act.eval, Array.getD_eq_getD_getElem?, List.getElem?_toArray, List.getElem?_cons_succ, List.getElem?_cons_zero, Option.getD_some, Act.put, List.setIfInBounds_toArray, List.set_cons_zero, List.set_cons_succ]))) <;> (first | ((with_reducible show wpList _ _ _ _ _ _); try simp only [Act.put, List.setIfInBounds_toArray, List.set_cons_zero, List.set_cons_succ]) | ((with_reducible show wpD _ _ _ _ _ _ _); try simp only [Act.put, List.setIfInBounds_toArray, List.set_cons_zero, List.set_cons_succ]) | (with_reducible show wpN _ _ _ _ _ _) | (with_reducible show Code.wp _ _ _ _ _) | (clear hH; intro w hH; (try simp only [List.nil_append, List.cons_append] at hH); (try simp only [Act.put, List.setIfInBounds_toArray, List.set_cons_zero, List.set_cons_succ] at hH ⊢)) | first | with_reducible assumption | omega | (simp only [List.length_set, List.length_replicate]; omega) | (simp; done) | (simp; omega))) | fail)
          refine ⟨⟨k + 1, by omega, by go_num, ?_, ?_⟩, by simp [intOf]; omega⟩
          · simp [cRun, cStep, hlk, hlj, hl, hlt]
          · simpa [cRun, cStep, List.set_set, hlk, hlj, hl, hlt] using hH
        · obtain rfl : k = 5 := by omega
          go_wp2_with (first | ((first | ((with_reducible show wpList _ _ _ (_ :: _) _ _); first | ((with_reducible show wpList _ _ _ (⟨_, Op.load 28 _, _, _, _, _⟩ :: _) _ _); first | refine wl_load 0 rfl rfl rfl hH rfl (C_get ?_) ?_ | refine wl_load 1 rfl rfl rfl hH rfl (C_get ?_) ?_) | ((with_reducible show wpList _ _ _ (⟨_, Op.load 31 _, _, _, _, _⟩ :: _) _ _); first | refine wl_loadC 0 rfl rfl rfl hH rfl ?_ ?_ | refine wl_loadC 1 rfl rfl rfl hH rfl ?_ ?_) | ((with_reducible show wpList _ _ _ (⟨_, Op.store 28 _ _, _, _, _, _⟩ :: _) _ _); first | refine wl_storeC 0 rfl rfl rfl rfl hH rfl ?_ ?_ | refine wl_storeC 1 rfl rfl rfl rfl hH rfl ?_ ?_) | ((with_reducible show wpList _ _ _ (⟨_, Op.store 31 _ _, _, _, _, _⟩ :: _) _ _); first | refine wl_storerowC 0 rfl rfl rfl rfl hH rfl ?_ ?_ ?_ | refine wl_storerowC 1 rfl rfl rfl rfl hH rfl ?_ ?_ ?_) | refine wl_val rfl (ex_mask_u64 rfl rfl rfl) ?_ | refine wl_val rfl (ex_and_u64 rfl rfl rfl) ?_ | refine wl_val rfl (ex_add_u64 rfl rfl rfl) ?_ | refine wl_val rfl (ex_mul_u64 rfl rfl rfl) ?_ | refine wl_val rfl (ex_shr_u64 rfl rfl rfl ?_) ?_ | refine wl_val rfl (ex_ixaddr1 rfl rfl rfl ?_) ?_ | ((first | refine wl_val rfl (ex_move rfl rfl) ?_ | refine wl_val rfl (ex_assign rfl rfl) ?_); try simp only [Act.eval, Array.getD_eq_getD_getElem?, List.getElem?_toArray, List.getElem?_cons_succ, List.getElem?_cons_zero, Option.getD_some, Act.put, List.setIfInBounds_toArray, List.set_cons_zero, List.set_cons_succ]))) <;> (first | ((with_reducible show wpList _ _ _ _ _ _); try simp only [Act.put, List.setIfInBounds_toArray, List.set_cons_zero, List.set_cons_succ]) | ((with_reducible show wpD _ _ _ _ _ _ _); try simp only [Act.put, List.setIfInBounds_toArray, List.set_cons_zero, List.set_cons_succ]) | (with_reducible show wpN _ _ _ _ _ _) | (with_reducible show Code.wp _ _ _ _ _) | (clear hH; intro w hH; (try simp only [List.nil_append, List.cons_append] at hH); (try simp only [Act.put, List.setIfInBounds_toArray, List.set_cons_zero, List.set_cons_succ] at hH ⊢)) | first | with_reducible assumption | omega | (simp only [List.length_set, List.length_replicate]; omega) | (simp; done) | (simp; omega))) | fail)
          refine ⟨⟨j + 1, by omega, by go_num, ?_⟩, by simp [intOf]; omega⟩
          simpa [passes, pass] using hH
    · obtain rfl : j = 2 := by omega
      go_wp2_with (first | ((first | ((with_reducible show wpList _ _ _ (_ :: _) _ _); first | ((with_reducible show wpList _ _ _ (⟨_, Op.load 28 _, _, _, _, _⟩ :: _) _ _); first | refine wl_load 0 rfl rfl rfl hH rfl (C_get ?_) ?_ | refine wl_load 1 rfl rfl rfl hH rfl (C_get ?_) ?_) | ((with_reducible show wpList _ _ _ (⟨_, Op.load 31 _, _, _, _, _⟩ :: _) _ _); first | refine wl_loadC 0 rfl rfl rfl hH rfl ?_ ?_ | refine wl_loadC 1 rfl rfl rfl hH rfl ?_ ?_) | ((with_reducible show wpList _ _ _ (⟨_, Op.store 28 _ _, _, _, _, _⟩ :: _) _ _); first | refine wl_storeC 0 rfl rfl rfl rfl hH rfl ?_ ?_ | refine wl_storeC 1 rfl rfl rfl rfl hH rfl ?_ ?_) | ((with_reducible show wpList _ _ _ (⟨_, Op.store 31 _ _, _, _, _, _⟩ :: _) _ _); first | refine wl_storerowC 0 rfl rfl rfl rfl hH rfl ?_ ?_ ?_ | refine wl_storerowC 1 rfl rfl rfl rfl hH rfl ?_ ?_ ?_) | refine wl_val rfl (ex_mask_u64 rfl rfl rfl) ?_ | refine wl_val rfl (ex_and_u64 rfl rfl rfl) ?_ | refine wl_val rfl (ex_add_u64 rfl rfl rfl) ?_ | refine wl_val rfl (ex_mul_u64 rfl rfl rfl) ?_ | refine wl_val rfl (ex_shr_u64 rfl rfl rfl ?_) ?_ | refine wl_val rfl (ex_ixaddr1 rfl rfl rfl ?_) ?_ | ((first | refine wl_val rfl (ex_move rfl rfl) ?_ | refine wl_val rfl (ex_assign rfl rfl) ?_); try simp only [Act.eval, Array.getD_eq_getD_getElem?, List.getElem?_toArray, List.getElem?_cons_succ, List.getElem?_cons_zero, Option.getD_some, Act.put, List.setIfInBounds_toArray, List.set_cons_zero, List.set_cons_succ]))) <;> (first | ((with_reducible show wpList _ _ _ _ _ _); try simp only [Act.put, List.setIfInBounds_toArray, List.set_cons_zero, List.set_cons_succ]) | ((with_reducible show wpD _ _ _ _ _ _ _); try simp only [Act.put, List.setIfInBounds_toArray, List.set_cons_zero, List.set_cons_succ]) | (with_reducible show wpN _ _ _ _ _ _) | (with_reducible show Code.wp _ _ _ _ _) | (clear hH; intro w hH; (try simp only [List.nil_append, List.cons_append] at hH); (try simp only [Act.put, List.setIfInBounds_toArray, List.set_cons_zero, List.set_cons_succ] at hH ⊢)) | first | with_reducible assumption | omega | (simp only [List.length_set, List.length_replicate]; omega) | (simp; done) | (simp; omega))) | fail)
      refine ret_cell 0 rfl rfl hH rfl ?_ rfl ⟨?_, hH.below⟩
      · simp only [C_size]; omega
      · rfl
end Go.Proofs.Ytmbbdblmengdhaa
