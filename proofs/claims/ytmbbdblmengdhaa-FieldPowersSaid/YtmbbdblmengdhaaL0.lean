/- Walks of the laws' helpers: alive, is. -/
import Derived.Test.YtmbbdblmengdhaaV9
import Derived.Test.YtmbbdblmengdhaaB3
set_option linter.unusedSimpArgs false
set_option linter.unusedVariables false
namespace Go.Proofs.Ytmbbdblmengdhaa
open Go.RowKit


set_option maxRecDepth 100000 in
set_option maxHeartbeats 1000000 in
theorem is_walk {a b k k2 : List Nat} (ha : a.length = 5) (hb : b.length = 16) (hk : k.length = 32) (hk2 : k2.length = 32) (h1 : Ret 48 #[.agg (C .u64 a)] (.agg (C .u8 k))) (h2 : Ret 49 #[.agg (C .i64 b)] (.agg (C .u8 k2))) :
    Ret 21 #[.agg (C .u64 a), .agg (C .i64 b)] (.bool (decide (k = k2))) := by
  refine ⟨fun w => ?_⟩
  obtain ⟨W, hW⟩ : ∃ W, W = w := ⟨_, rfl⟩
  have hH := Has.nil W
  rw [← hW]
  clear hW
  go_enter Try.func21, Try.ntmps21
  apply wp_seq_k; intro K1 hK1
  apply wp_region_lit
  refine wl_boxA rfl rfl rfl hH ?_
  clear hH; intro b1 w hH
  simp only [Act.put, List.setIfInBounds_toArray, List.set_cons_zero, List.set_cons_succ]
  refine wl_boxA rfl rfl rfl hH ?_
  clear hH; intro b2 w hH
  simp only [Act.put, List.setIfInBounds_toArray, List.set_cons_zero, List.set_cons_succ]
  go_wp2_with (first | ((first | ((with_reducible show wpList _ _ _ (_ :: _) _ _); first | ((first | refine wl_val rfl (ex_assign rfl rfl) ?_); try simp only [Act.eval, Array.getD_eq_getD_getElem?, List.getElem?_toArray, List.getElem?_cons_succ, List.getElem?_cons_zero, Option.getD_some, Act.put, List.setIfInBounds_toArray, List.set_cons_zero, List.set_cons_succ])) | ((with_reducible show wpD _ _ _ _ _ (_ :: _) _); first | refine wd_call rfl rfl (f := 48) rfl (args1 _ _) (h1) ?_ | refine wd_call rfl rfl (f := 49) rfl (args1 _ _) (h2) ?_ | refine wd_val rfl (ex_eqlC rfl rfl rfl ?_ ?_) ?_ | ((first | refine wd_val rfl (ex_assign rfl rfl) ?_); try simp only [Act.eval, Array.getD_eq_getD_getElem?, List.getElem?_toArray, List.getElem?_cons_succ, List.getElem?_cons_zero, Option.getD_some, Act.put, List.setIfInBounds_toArray, List.set_cons_zero, List.set_cons_succ]) | ((with_reducible show wpD _ _ _ _ _ (⟨_, Op.load 31 _, _, _, _, _⟩ :: _) _); first | refine wd_valH rfl (fun w hH => ex_loadC 0 rfl rfl hH rfl ?_) ?_ | refine wd_valH rfl (fun w hH => ex_loadC 1 rfl rfl hH rfl ?_) ?_) | ((with_reducible show wpD _ _ _ _ _ (⟨_, Op.load 35 _, _, _, _, _⟩ :: _) _); first | refine wd_valH rfl (fun w hH => ex_loadC 0 rfl rfl hH rfl ?_) ?_ | refine wd_valH rfl (fun w hH => ex_loadC 1 rfl rfl hH rfl ?_) ?_) | refine wd_skip rfl ?_ | (refine wd_val (v := ?_) rfl ?_ ?_; rotate_left; focus (intro w; go_simp; try with_reducible rfl))) | ((with_reducible show Code.wp _ (Code.region 1 _ true) _ _ _); refine wp_draw 5 [] (by kernel_rfl) hH ?_) | ((with_reducible show wpD _ _ _ _ _ _ _); refine wd_done ?_; try dsimp only) | ((with_reducible show wpN _ _ _ _ _ _); refine wn_done ?_; try dsimp only)) <;> (first | ((with_reducible show wpList _ _ _ _ _ _); try simp only [Act.put, List.setIfInBounds_toArray, List.set_cons_zero, List.set_cons_succ]) | ((with_reducible show wpD _ _ _ _ _ _ _); try simp only [Act.put, List.setIfInBounds_toArray, List.set_cons_zero, List.set_cons_succ]) | (with_reducible show wpN _ _ _ _ _ _) | (with_reducible show Code.wp _ _ _ _ _) | (clear hH; intro w hH; (try simp only [List.nil_append, List.cons_append] at hH); (try simp only [Act.put, List.setIfInBounds_toArray, List.set_cons_zero, List.set_cons_succ] at hH ⊢)) | first | with_reducible assumption | omega | (simp only [List.length_set, List.length_replicate]; omega) | (simp; done) | (simp; omega))) | fail)
  go_ret
  exact ⟨rfl, hH.below⟩
theorem is_any {a : List Nat} {x y : Nat} (ha : Lim a x) (hy : y < pP) : Ret 21 #[.agg (C .u64 a), .agg (C .i64 (D16 y))] (.bool (decide (x = y))) := by
  have := is_walk ha.len (D16_len y) (key32_len x) (key32_len y) (bytes_lim ha) (rbytes_D16 (by omega))
  rwa [key32_eq ha.x_lt hy] at this
/-- Both sides say the same. -/
theorem is_true {a : List Nat} {x : Nat} (ha : Lim a x) : Ret 21 #[.agg (C .u64 a), .agg (C .i64 (D16 x))] (.bool true) := by
  have := is_any ha ha.x_lt
  simpa using this

set_option maxRecDepth 100000 in
set_option maxHeartbeats 1000000 in
theorem alive5_walk {a b c m k k2 : List Nat} (ha : a.length = 5) (hb : b.length = 5) (hc : c.length = 5) (hm : m.length = 5) (hk : k.length = 32) (hk2 : k2.length = 32)
    (h1 : Ret 26 #[.int .i64 (-1)] (.agg (C .u64 a))) (h2 : Ret 48 #[.agg (C .u64 a)] (.agg (C .u8 k)))
    (h3 : Ret 26 #[.int .i64 7] (.agg (C .u64 b))) (h4 : Ret 26 #[.int .i64 6] (.agg (C .u64 c))) (h5 : Ret 23 #[.agg (C .u64 b), .agg (C .u64 c)] (.agg (C .u64 m))) (h6 : Ret 48 #[.agg (C .u64 m)] (.agg (C .u8 k2)))
    (g0 : Veil (k.getD 0 0 = 236)) (g1 : Veil (k.getD 1 0 = 255)) (g2 : Veil (k.getD 31 0 = 127)) (g3 : Veil (k2.getD 0 0 = 42)) : Ret 20 #[] (.bool true) := by
  refine ⟨fun w => ?_⟩
  obtain ⟨W, hW⟩ : ∃ W, W = w := ⟨_, rfl⟩
  have hH := Has.nil W
  rw [← hW]
  clear hW
  go_enter Try.func20, Try.ntmps20
  apply wp_seq_k; intro K1 hK1
  apply wp_region_lit
  go_wp2_with (first | ((first | ((with_reducible show wpList _ _ _ (⟨_, _, _, _, _, some _⟩ :: _) _ _); refine wl_want rfl ?_) | ((with_reducible show wpList _ _ _ (_ :: _) _ _); first | (refine wl_allocA rfl rfl z23 hH ?_; clear hH; intro b1 w hH) | refine wl_callc rfl rfl (f := 26) rfl (args1 _ _) (h1) hH ?_ | refine wl_callc rfl (show _ = Op.call { callee := _, args := #[Operand.tmp 2], argTypes := _ } from rfl) (f := 48) rfl (args1 _ _) (h2) hH ?_ | refine wl_load 0 rfl rfl rfl hH rfl (C_get' ?_ g0.out) ?_ | refine wl_load 0 rfl rfl rfl hH rfl (C_get' ?_ g1.out) ?_ | refine wl_load 0 rfl rfl rfl hH rfl (C_get' ?_ g2.out) ?_ | refine wl_callc rfl rfl (f := 26) rfl (args1 _ _) (h3) hH ?_ | refine wl_callc rfl rfl (f := 26) rfl (args1 _ _) (h4) hH ?_ | refine wl_callc rfl rfl (f := 23) rfl (args2 _ _ _) (h5) hH ?_ | refine wl_callc rfl (show _ = Op.call { callee := _, args := #[Operand.tmp 20], argTypes := _ } from rfl) (f := 48) rfl (args1 _ _) (h6) hH ?_ | refine wl_val rfl (ex_indexV rfl rfl rfl ?_ ?_ g3.out) ?_ | refine wl_val rfl (ex_eqN rfl rfl rfl) ?_ | refine wl_load 0 rfl rfl rfl hH rfl (C_get ?_) ?_ | refine wl_storerowC 0 rfl rfl rfl rfl hH rfl ?_ ?_ ?_ | refine wl_val rfl (ex_ixaddr1 rfl rfl rfl ?_) ?_ | refine wl_val rfl (ex_index rfl rfl rfl ?_ ?_) ?_ | ((first | refine wl_val rfl (ex_move rfl rfl) ?_ | refine wl_val rfl (ex_assign rfl rfl) ?_); try simp only [Act.eval, Array.getD_eq_getD_getElem?, List.getElem?_toArray, List.getElem?_cons_succ, List.getElem?_cons_zero, Option.getD_some, Act.put, List.setIfInBounds_toArray, List.set_cons_zero, List.set_cons_succ]))) <;> (first | ((with_reducible show wpList _ _ _ _ _ _); try simp only [Act.put, List.setIfInBounds_toArray, List.set_cons_zero, List.set_cons_succ]) | ((with_reducible show wpD _ _ _ _ _ _ _); try simp only [Act.put, List.setIfInBounds_toArray, List.set_cons_zero, List.set_cons_succ]) | (with_reducible show wpN _ _ _ _ _ _) | (with_reducible show Code.wp _ _ _ _ _) | (clear hH; intro w hH; (try simp only [List.nil_append, List.cons_append] at hH); (try simp only [Act.put, List.setIfInBounds_toArray, List.set_cons_zero, List.set_cons_succ] at hH ⊢)) | first | with_reducible assumption | omega | (simp only [List.length_set, List.length_replicate]; omega) | (simp; done) | (simp; omega))) | fail)
  go_ret
  exact ⟨rfl, hH.below⟩
theorem alive5_any : Ret 20 #[] (.bool true) := by
  have l0 := num_lim (m := 0) (by decide)
  have s1 := sub_lim (sub_lim zero_lim l0) one_lim
  have h1 := small_neg (m := 0) (by unfold Lt63; decide) (n := -1) rfl
  have l7 := num_lim (m := 7) (by decide)
  have l6 := num_lim (m := 6) (by decide)
  have lm := mul_lim l7 l6
  have b1 := bytes_lim s1
  have b2 := bytes_lim lm
  refine alive5_walk s1.len l7.len l6.len lm.len (key32_len _) (key32_len _) h1 b1 (small_pos (m := 7) (by unfold Lt63; decide)) (small_pos (m := 6) (by unfold Lt63; decide)) (mul_ret l7 l6) b2 ⟨?_⟩ ⟨?_⟩ ⟨?_⟩ ⟨?_⟩
  · decide +kernel
  · decide +kernel
  · decide +kernel
  · decide +kernel
end Go.Proofs.Ytmbbdblmengdhaa
