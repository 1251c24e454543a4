/- Walks: the two Clamps, and the law over them. -/
import Derived.Test.YtmbbdblmengdhaaB2
import Derived.Test.YtmbbdblmengdhaaB3
set_option linter.unusedSimpArgs false
set_option linter.unusedVariables false
namespace Go.Proofs.Ytmbbdblmengdhaa
open Go.RowKit

/-- A key, clamped. -/
def clampL (l : List Nat) : List Nat := (l.set 0 (l.getD 0 0 / 8 * 8)).set 31 (l.getD 31 0 % 64 + 64)
@[simp] theorem clampL_len (l : List Nat) : (clampL l).length = l.length := by simp [clampL]
theorem and248 : ∀ n : Nat, n < 256 → n &&& 248 = n / 8 * 8 := by decide +kernel
theorem and127_or64 : ∀ n : Nat, n < 256 → (n &&& 127) ||| 64 = n % 64 + 64 := by decide +kernel
theorem getD_set_ne' {l : List Nat} {i j v : Nat} (h : i ≠ j) : (l.set i v).getD j 0 = l.getD j 0 := by
  simp only [List.getD_eq_getElem?_getD, List.getElem?_set_ne h]

set_option maxRecDepth 100000 in
set_option maxHeartbeats 1000000 in
theorem clamp_any {l : List Nat} (hl : l.length = 32) (hb : ∀ i, l.getD i 0 < 256) : Ret 18 #[.agg (C .u8 l)] (.agg (C .u8 (clampL l))) := by
  have h0 := hb 0
  have h31 := hb 31
  clear hb
  refine ⟨fun w => ?_⟩
  obtain ⟨W, hW⟩ : ∃ W, W = w := ⟨_, rfl⟩
  have hH := Has.nil W
  rw [← hW]
  clear hW
  go_enter Try.func18, Try.ntmps18
  apply wp_seq_k; intro K1 hK1
  apply wp_region_lit
  refine wl_boxA rfl rfl rfl hH ?_
  clear hH; intro b1 w hH
  simp only [Act.put, List.setIfInBounds_toArray, List.set_cons_zero, List.set_cons_succ]
  refine wl_allocA rfl rfl z23 hH ?_
  clear hH; intro b2 w hH
  simp only [Act.put, List.setIfInBounds_toArray, List.set_cons_zero, List.set_cons_succ]
  go_wp2_with (first | ((first | ((with_reducible show wpList _ _ _ (_ :: _) _ _); first | refine wl_val rfl (ex_and_u8 rfl rfl rfl) ?_ | refine wl_val rfl (ex_or_u8 rfl rfl rfl) ?_ | ((with_reducible show wpList _ _ _ (⟨_, Op.load 23 _, _, _, _, _⟩ :: _) _ _); first | refine wl_loadC 0 rfl rfl rfl hH rfl ?_ ?_ | refine wl_loadC 1 rfl rfl rfl hH rfl ?_ ?_) | ((with_reducible show wpList _ _ _ (⟨_, Op.load 5 _, _, _, _, _⟩ :: _) _ _); first | refine wl_load 0 rfl rfl rfl hH rfl (C_get ?_) ?_ | refine wl_load 1 rfl rfl rfl hH rfl (C_get ?_) ?_) | ((with_reducible show wpList _ _ _ (⟨_, Op.store 23 _ _, _, _, _, _⟩ :: _) _ _); first | refine wl_storerowC 0 rfl rfl rfl rfl hH rfl ?_ ?_ ?_ | refine wl_storerowC 1 rfl rfl rfl rfl hH rfl ?_ ?_ ?_) | ((with_reducible show wpList _ _ _ (⟨_, Op.store 5 _ _, _, _, _, _⟩ :: _) _ _); first | refine wl_storeC 0 rfl rfl rfl rfl hH rfl ?_ ?_ | refine wl_storeC 1 rfl rfl rfl rfl hH rfl ?_ ?_) | refine wl_val rfl (ex_ixaddr1 rfl rfl rfl ?_) ?_)) <;> (first | ((with_reducible show wpList _ _ _ _ _ _); try simp only [Act.put, List.setIfInBounds_toArray, List.set_cons_zero, List.set_cons_succ]) | ((with_reducible show wpD _ _ _ _ _ _ _); try simp only [Act.put, List.setIfInBounds_toArray, List.set_cons_zero, List.set_cons_succ]) | (with_reducible show wpN _ _ _ _ _ _) | (with_reducible show Code.wp _ _ _ _ _) | (clear hH; intro w hH; (try simp only [List.nil_append, List.cons_append] at hH); (try simp only [Act.put, List.setIfInBounds_toArray, List.set_cons_zero, List.set_cons_succ] at hH ⊢)) | first | with_reducible assumption | omega | (simp only [List.length_set, List.length_replicate]; omega) | (simp; done) | (simp; omega))) | fail)
  refine ret_cell 0 rfl rfl hH rfl ?_ rfl ⟨?_, hH.below⟩
  · rw [C_size]; simp [hl]
  · refine congrArg (fun x => Ending.returned (Value.agg (C .u8 x))) ?_
    have := Nat.and_le_left (n := l.getD 0 0) (m := 248)
    have := Nat.and_le_left (n := l.getD 31 0) (m := 127)
    rw [getD_set_ne' (by decide), Nat.mod_eq_of_lt (a := l.getD 0 0 &&& 248) (by omega), Nat.mod_eq_of_lt (a := l.getD 31 0 &&& 127) (by omega), and248 _ h0, and127_or64 _ h31, Nat.mod_eq_of_lt (a := _ + 64) (by omega)]
    rfl

set_option maxRecDepth 100000 in
set_option maxHeartbeats 1000000 in
theorem rclamp_any {l : List Nat} (hl : l.length = 32) (hb : ∀ i, l.getD i 0 < 256) : Ret 19 #[.agg (C .u8 l)] (.agg (C .u8 (clampL l))) := by
  have h0 := hb 0
  have h31 := hb 31
  clear hb
  refine ⟨fun w => ?_⟩
  obtain ⟨W, hW⟩ : ∃ W, W = w := ⟨_, rfl⟩
  have hH := Has.nil W
  rw [← hW]
  clear hW
  go_enter Try.func19, Try.ntmps19
  apply wp_seq_k; intro K1 hK1
  apply wp_region_lit
  refine wl_boxA rfl rfl rfl hH ?_
  clear hH; intro b1 w hH
  simp only [Act.put, List.setIfInBounds_toArray, List.set_cons_zero, List.set_cons_succ]
  refine wl_allocA rfl rfl z23 hH ?_
  clear hH; intro b2 w hH
  simp only [Act.put, List.setIfInBounds_toArray, List.set_cons_zero, List.set_cons_succ]
  go_wp2_with (first | ((first | ((with_reducible show wpList _ _ _ (_ :: _) _ _); first | refine wl_val rfl (ex_add_u8 rfl rfl rfl) ?_ | refine wl_val rfl (ex_mul_u8 rfl rfl rfl) ?_ | refine wl_val rfl (ex_rem_u8 rfl rfl rfl ?_) ?_ | refine wl_val rfl (ex_quo_u8 rfl rfl rfl ?_) ?_ | ((with_reducible show wpList _ _ _ (⟨_, Op.load 23 _, _, _, _, _⟩ :: _) _ _); first | refine wl_loadC 0 rfl rfl rfl hH rfl ?_ ?_ | refine wl_loadC 1 rfl rfl rfl hH rfl ?_ ?_) | ((with_reducible show wpList _ _ _ (⟨_, Op.load 5 _, _, _, _, _⟩ :: _) _ _); first | refine wl_load 0 rfl rfl rfl hH rfl (C_get ?_) ?_ | refine wl_load 1 rfl rfl rfl hH rfl (C_get ?_) ?_) | ((with_reducible show wpList _ _ _ (⟨_, Op.store 23 _ _, _, _, _, _⟩ :: _) _ _); first | refine wl_storerowC 0 rfl rfl rfl rfl hH rfl ?_ ?_ ?_ | refine wl_storerowC 1 rfl rfl rfl rfl hH rfl ?_ ?_ ?_) | ((with_reducible show wpList _ _ _ (⟨_, Op.store 5 _ _, _, _, _, _⟩ :: _) _ _); first | refine wl_storeC 0 rfl rfl rfl rfl hH rfl ?_ ?_ | refine wl_storeC 1 rfl rfl rfl rfl hH rfl ?_ ?_) | refine wl_val rfl (ex_ixaddr1 rfl rfl rfl ?_) ?_)) <;> (first | ((with_reducible show wpList _ _ _ _ _ _); try simp only [Act.put, List.setIfInBounds_toArray, List.set_cons_zero, List.set_cons_succ]) | ((with_reducible show wpD _ _ _ _ _ _ _); try simp only [Act.put, List.setIfInBounds_toArray, List.set_cons_zero, List.set_cons_succ]) | (with_reducible show wpN _ _ _ _ _ _) | (with_reducible show Code.wp _ _ _ _ _) | (clear hH; intro w hH; (try simp only [List.nil_append, List.cons_append] at hH); (try simp only [Act.put, List.setIfInBounds_toArray, List.set_cons_zero, List.set_cons_succ] at hH ⊢)) | first | with_reducible assumption | omega | (simp only [List.length_set, List.length_replicate]; omega) | (simp; done) | (simp; omega))) | fail)
  refine ret_cell 0 rfl rfl hH rfl ?_ rfl ⟨?_, hH.below⟩
  · rw [C_size]; simp [hl]
  · refine congrArg (fun x => Ending.returned (Value.agg (C .u8 x))) ?_
    rw [getD_set_ne' (by decide), Nat.mod_eq_of_lt (a := l.getD 0 0 / 8) (by omega), Nat.mod_eq_of_lt (a := l.getD 0 0 / 8 * 8) (by omega), Nat.mod_eq_of_lt (a := _ + 64) (by omega)]
    rfl

theorem one_key {v i : Nat} (hi : i < 32) (hv : v < 256) : ((List.replicate 32 0).set i v).length = 32 ∧ ∀ j, ((List.replicate 32 0).set i v).getD j 0 < 256 := by
  refine ⟨by simp, fun j => ?_⟩
  simp only [List.getD_eq_getElem?_getD, List.getElem?_set, List.getElem?_replicate]
  split
  · split <;> simp [hv]
  · split <;> simp

set_option maxRecDepth 100000 in
set_option maxHeartbeats 1000000 in
theorem law_clamps {l : List Nat} (hl : l.length = 32) (hb : ∀ i, l.getD i 0 < 256) : Ret 3 #[.agg (C .u8 l)] (.bool true) := by
  have c7 := clamp_any (l := (List.replicate 32 0).set 0 7) (by decide +kernel) (one_key (by decide) (by decide)).2
  have e7 : clampL ((List.replicate 32 0).set 0 7) = (List.replicate 32 0).set 31 64 := by decide +kernel
  rw [e7] at c7
  have c1 := clamp_any hl hb
  have c2 := rclamp_any hl hb
  have hc : (clampL l).length = 32 := by rw [clampL_len, hl]
  clear e7
  clear hb
  refine ⟨fun w => ?_⟩
  obtain ⟨W, hW⟩ : ∃ W, W = w := ⟨_, rfl⟩
  have hH := Has.nil W
  rw [← hW]
  clear hW
  go_enter Try.func3, Try.ntmps3
  apply wp_seq_k; intro K1 hK1
  apply wp_region_lit
  refine wl_boxA rfl rfl rfl hH ?_
  clear hH; intro b1 w hH
  simp only [Act.put, List.setIfInBounds_toArray, List.set_cons_zero, List.set_cons_succ]
  go_wp2_with (first | ((first | ((with_reducible show wpList _ _ _ (_ :: _) _ _); first | ((first | refine wl_val rfl (ex_assign rfl rfl) ?_); try simp only [Act.eval, Array.getD_eq_getD_getElem?, List.getElem?_toArray, List.getElem?_cons_succ, List.getElem?_cons_zero, Option.getD_some, Act.put, List.setIfInBounds_toArray, List.set_cons_zero, List.set_cons_succ])) | ((with_reducible show wpD _ _ _ _ _ (_ :: _) _); first | refine wd_call rfl rfl (f := 18) rfl (args1 _ _) (c7) ?_ | refine wd_call rfl rfl (f := 18) rfl (args1 _ _) (c1) ?_ | refine wd_call rfl rfl (f := 19) rfl (args1 _ _) (c2) ?_ | refine wd_val rfl (ex_eqlC rfl rfl rfl ?_ ?_) ?_ | refine wd_val rfl (ex_build rfl (b23_0)) ?_ | refine wd_val rfl (ex_build rfl (b23_1 _)) ?_ | refine wd_val rfl (ex_build rfl (b23_31 _)) ?_ | ((first | refine wd_val rfl (ex_move rfl rfl) ?_ | refine wd_val rfl (ex_assign rfl rfl) ?_); try simp only [Act.eval, Array.getD_eq_getD_getElem?, List.getElem?_toArray, List.getElem?_cons_succ, List.getElem?_cons_zero, Option.getD_some, Act.put, List.setIfInBounds_toArray, List.set_cons_zero, List.set_cons_succ]) | refine wd_valH rfl (fun w hH => ex_loadC 0 rfl rfl hH rfl ?_) ?_ | refine wd_skip rfl ?_ | (refine wd_val (v := ?_) rfl ?_ ?_; rotate_left; focus (intro w; go_simp; try with_reducible rfl))) | ((with_reducible show Code.wp _ (Code.region 1 _ true) _ _ _); refine wp_draw 11 [] (by kernel_rfl) hH ?_) | ((with_reducible show wpD _ _ _ _ _ _ _); refine wd_done ?_; try dsimp only) | ((with_reducible show wpN _ _ _ _ _ _); refine wn_done ?_; try dsimp only)) <;> (first | ((with_reducible show wpList _ _ _ _ _ _); try simp only [Act.put, List.setIfInBounds_toArray, List.set_cons_zero, List.set_cons_succ]) | ((with_reducible show wpD _ _ _ _ _ _ _); try simp only [Act.put, List.setIfInBounds_toArray, List.set_cons_zero, List.set_cons_succ]) | (with_reducible show wpN _ _ _ _ _ _) | (with_reducible show Code.wp _ _ _ _ _) | (clear hH; intro w hH; (try simp only [List.nil_append, List.cons_append] at hH); (try simp only [Act.put, List.setIfInBounds_toArray, List.set_cons_zero, List.set_cons_succ] at hH ⊢)) | first | with_reducible assumption | omega | (simp only [List.length_set, List.length_replicate]; omega) | (simp; done) | (simp; omega))) | fail)
  go_ret
  exact ⟨rfl, hH.below⟩
end Go.Proofs.Ytmbbdblmengdhaa
