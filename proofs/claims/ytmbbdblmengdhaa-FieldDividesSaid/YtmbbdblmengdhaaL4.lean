/- Walks of the laws: FieldRoots, FieldInverse, FieldSquares, FieldDivides. -/
import Derived.Test.YtmbbdblmengdhaaL0
import Derived.Test.YtmbbdblmengdhaaA12
import Derived.Test.YtmbbdblmengdhaaR9
import Derived.Test.YtmbbdblmengdhaaV13
set_option linter.unusedSimpArgs false
set_option linter.unusedVariables false
namespace Go.Proofs.Ytmbbdblmengdhaa
open Go.RowKit

set_option maxRecDepth 100000 in
set_option maxHeartbeats 1000000 in
theorem roots_walk {l a r u w : List Nat} {b : Bool} (hl : l.length = 32) (ha : a.length = 5) (hr : r.length = 5) (hu : u.length = 16) (hw : w.length = 16) (h0 : Ret 20 #[] (.bool true)) (h1 : Ret 22 #[.agg (C .u8 l)] (.agg (C .u64 a)))
    (h2 : Ret 43 #[.agg (C .u64 a)] (.tuple #[.agg (C .u64 r), .bool b])) (h3 : Ret 25 #[.agg (C .u8 l)] (.agg (C .i64 u))) (h4 : Ret 44 #[.agg (C .i64 u)] (.tuple #[.agg (C .i64 w), .bool b])) (h5 : Ret 21 #[.agg (C .u64 r), .agg (C .i64 w)] (.bool true)) :
    Ret 13 #[.agg (C .u8 l)] (.bool true) := by
  have hq : Veil ((b == b) = true) := ⟨by simp⟩
  refine ⟨fun w => ?_⟩
  obtain ⟨W, hW⟩ : ∃ W, W = w := ⟨_, rfl⟩
  have hH := Has.nil W
  rw [← hW]
  clear hW
  go_enter Try.func13, Try.ntmps13
  apply wp_seq_k; intro K1 hK1
  apply wp_region_lit
  refine wl_boxA rfl rfl rfl hH ?_
  clear hH; intro b1 w hH
  simp only [Act.put, List.setIfInBounds_toArray, List.set_cons_zero, List.set_cons_succ]
  go_wp2_with (first | ((first | ((with_reducible show wpList _ _ _ (⟨_, _, _, _, _, some _⟩ :: _) _ _); refine wl_want rfl ?_) | ((with_reducible show wpList _ _ _ (_ :: _) _ _); first | (refine wl_allocA rfl rfl z31 hH ?_; clear hH; intro b2 w hH) | (refine wl_allocA rfl rfl z35 hH ?_; clear hH; intro b3 w hH) | refine wl_callc rfl rfl (f := 22) rfl (args1 _ _) (h1) hH ?_ | refine wl_callc rfl rfl (f := 43) rfl (args1 _ _) (h2) hH ?_ | refine wl_callc rfl rfl (f := 25) rfl (args1 _ _) (h3) hH ?_ | refine wl_callc rfl rfl (f := 44) rfl (args1 _ _) (h4) hH ?_ | refine wl_callc rfl rfl (f := 20) rfl (args0 _) (h0) hH ?_ | refine wl_callc rfl rfl (f := 21) rfl (args2 _ _ _) (h5) hH ?_ | refine wl_val rfl (ex_eqBV rfl rfl rfl hq.out) ?_ | ((with_reducible show wpList _ _ _ (⟨_, Op.load 23 _, _, _, _, _⟩ :: _) _ _); first | refine wl_loadC 0 rfl rfl rfl hH rfl ?_ ?_ | refine wl_loadC 1 rfl rfl rfl hH rfl ?_ ?_ | refine wl_loadC 2 rfl rfl rfl hH rfl ?_ ?_ | refine wl_loadC 3 rfl rfl rfl hH rfl ?_ ?_) | ((with_reducible show wpList _ _ _ (⟨_, Op.load 31 _, _, _, _, _⟩ :: _) _ _); first | refine wl_loadC 0 rfl rfl rfl hH rfl ?_ ?_ | refine wl_loadC 1 rfl rfl rfl hH rfl ?_ ?_ | refine wl_loadC 2 rfl rfl rfl hH rfl ?_ ?_ | refine wl_loadC 3 rfl rfl rfl hH rfl ?_ ?_) | ((with_reducible show wpList _ _ _ (⟨_, Op.load 35 _, _, _, _, _⟩ :: _) _ _); first | refine wl_loadC 0 rfl rfl rfl hH rfl ?_ ?_ | refine wl_loadC 1 rfl rfl rfl hH rfl ?_ ?_ | refine wl_loadC 2 rfl rfl rfl hH rfl ?_ ?_ | refine wl_loadC 3 rfl rfl rfl hH rfl ?_ ?_) | ((with_reducible show wpList _ _ _ (⟨_, Op.store 31 _ _, _, _, _, _⟩ :: _) _ _); first | refine wl_storerowC 0 rfl rfl rfl rfl hH rfl ?_ ?_ ?_ | refine wl_storerowC 1 rfl rfl rfl rfl hH rfl ?_ ?_ ?_ | refine wl_storerowC 2 rfl rfl rfl rfl hH rfl ?_ ?_ ?_ | refine wl_storerowC 3 rfl rfl rfl rfl hH rfl ?_ ?_ ?_) | ((with_reducible show wpList _ _ _ (⟨_, Op.store 35 _ _, _, _, _, _⟩ :: _) _ _); first | refine wl_storerowC 0 rfl rfl rfl rfl hH rfl ?_ ?_ ?_ | refine wl_storerowC 1 rfl rfl rfl rfl hH rfl ?_ ?_ ?_ | refine wl_storerowC 2 rfl rfl rfl rfl hH rfl ?_ ?_ ?_ | refine wl_storerowC 3 rfl rfl rfl rfl hH rfl ?_ ?_ ?_) | ((first | refine wl_val rfl (ex_move rfl rfl) ?_ | refine wl_val rfl (ex_assign rfl rfl) ?_ | refine wl_val rfl (ex_extract rfl rfl rfl) ?_); try simp only [Act.eval, Array.getD_eq_getD_getElem?, List.getElem?_toArray, List.getElem?_cons_succ, List.getElem?_cons_zero, Option.getD_some, Act.put, List.setIfInBounds_toArray, List.set_cons_zero, List.set_cons_succ]))) <;> (first | ((with_reducible show wpList _ _ _ _ _ _); try simp only [Act.put, List.setIfInBounds_toArray, List.set_cons_zero, List.set_cons_succ]) | ((with_reducible show wpD _ _ _ _ _ _ _); try simp only [Act.put, List.setIfInBounds_toArray, List.set_cons_zero, List.set_cons_succ]) | (with_reducible show wpN _ _ _ _ _ _) | (with_reducible show Code.wp _ _ _ _ _) | (clear hH; intro w hH; (try simp only [List.nil_append, List.cons_append] at hH); (try simp only [Act.put, List.setIfInBounds_toArray, List.set_cons_zero, List.set_cons_succ] at hH ⊢)) | first | with_reducible assumption | omega | (simp only [List.length_set, List.length_replicate]; omega) | (simp; done) | (simp; omega))) | fail)
  go_ret
  exact ⟨rfl, hH.below⟩
theorem law_roots {l : List Nat} (hl : l.length = 32) (hb : ∀ i, l.getD i 0 < 256) : Ret 13 #[.agg (C .u8 l)] (.bool true) := by
  obtain ⟨a, la, ra⟩ := from_ex hl hb
  obtain ⟨r, lr, rr⟩ := root_ex la
  exact roots_walk hl la.len lr.len (D16_len _) (D16_len _) alive5_any ra rr (rfrom_ex hl hb) (rroot_any (keyN_lt l)) (is_true lr)

set_option maxRecDepth 100000 in
set_option maxHeartbeats 1000000 in
theorem inverse_walk {l a i u v z m one : List Nat} {b : Bool} (hl : l.length = 32) (ha : a.length = 5) (hi : i.length = 5) (h0 : Ret 20 #[] (.bool true)) (h1 : Ret 22 #[.agg (C .u8 l)] (.agg (C .u64 a)))
    (h2 : Ret 41 #[.agg (C .u64 a)] (.agg (C .u64 i))) (h3 : Ret 25 #[.agg (C .u8 l)] (.agg (C .i64 u))) (h4 : Ret 42 #[.agg (C .i64 u)] (.agg (C .i64 v))) (h5 : Ret 21 #[.agg (C .u64 i), .agg (C .i64 v)] (.bool true))
    (h6 : Ret 26 #[.int .i64 0] (.agg (C .u64 z))) (h7 : Ret 37 #[.agg (C .u64 a), .agg (C .u64 z)] (.bool b)) (h8 : Ret 23 #[.agg (C .u64 a), .agg (C .u64 i)] (.agg (C .u64 m))) (h9 : Ret 26 #[.int .i64 1] (.agg (C .u64 one)))
    (h10 : b = false → Ret 37 #[.agg (C .u64 m), .agg (C .u64 one)] (.bool true)) :
    Ret 11 #[.agg (C .u8 l)] (.bool true) := by
  cases b with
  | true =>
    clear h10
    refine ⟨fun w => ?_⟩
    obtain ⟨W, hW⟩ : ∃ W, W = w := ⟨_, rfl⟩
    have hH := Has.nil W
    rw [← hW]
    clear hW
    go_enter Try.func11, Try.ntmps11
    apply wp_seq_k; intro K1 hK1
    apply wp_region_lit
    refine wl_boxA rfl rfl rfl hH ?_
    clear hH; intro b1 w hH
    simp only [Act.put, List.setIfInBounds_toArray, List.set_cons_zero, List.set_cons_succ]
    go_wp2_with (first | ((first | ((with_reducible show wpList _ _ _ (_ :: _) _ _); first | (refine wl_allocA rfl rfl z31 hH ?_; clear hH; intro b2 w hH) | refine wl_callc rfl rfl (f := 22) rfl (args1 _ _) (h1) hH ?_ | refine wl_callc rfl rfl (f := 41) rfl (args1 _ _) (h2) hH ?_ | ((with_reducible show wpList _ _ _ (⟨_, Op.load 23 _, _, _, _, _⟩ :: _) _ _); first | refine wl_loadC 0 rfl rfl rfl hH rfl ?_ ?_ | refine wl_loadC 1 rfl rfl rfl hH rfl ?_ ?_ | refine wl_loadC 2 rfl rfl rfl hH rfl ?_ ?_ | refine wl_loadC 3 rfl rfl rfl hH rfl ?_ ?_) | ((with_reducible show wpList _ _ _ (⟨_, Op.load 31 _, _, _, _, _⟩ :: _) _ _); first | refine wl_loadC 0 rfl rfl rfl hH rfl ?_ ?_ | refine wl_loadC 1 rfl rfl rfl hH rfl ?_ ?_ | refine wl_loadC 2 rfl rfl rfl hH rfl ?_ ?_ | refine wl_loadC 3 rfl rfl rfl hH rfl ?_ ?_) | refine wl_storerowC 0 rfl rfl rfl rfl hH rfl ?_ ?_ ?_ | refine wl_storerowC 1 rfl rfl rfl rfl hH rfl ?_ ?_ ?_ | refine wl_storerowC 2 rfl rfl rfl rfl hH rfl ?_ ?_ ?_ | refine wl_storerowC 3 rfl rfl rfl rfl hH rfl ?_ ?_ ?_ | ((first | refine wl_val rfl (ex_assign rfl rfl) ?_); try simp only [Act.eval, Array.getD_eq_getD_getElem?, List.getElem?_toArray, List.getElem?_cons_succ, List.getElem?_cons_zero, Option.getD_some, Act.put, List.setIfInBounds_toArray, List.set_cons_zero, List.set_cons_succ])) | ((with_reducible show wpD _ _ _ _ _ (_ :: _) _); first | refine wd_call rfl rfl (f := 20) rfl (args0 _) (h0) ?_ | refine wd_call rfl rfl (f := 25) rfl (args1 _ _) (h3) ?_ | refine wd_call rfl rfl (f := 42) rfl (args1 _ _) (h4) ?_ | refine wd_call rfl rfl (f := 21) rfl (args2 _ _ _) (h5) ?_ | refine wd_call rfl rfl (f := 26) rfl (args1 _ _) (h6) ?_ | refine wd_call rfl rfl (f := 37) rfl (args2 _ _ _) (h7) ?_ | ((first | refine wd_val rfl (ex_move rfl rfl) ?_ | refine wd_val rfl (ex_assign rfl rfl) ?_); try simp only [Act.eval, Array.getD_eq_getD_getElem?, List.getElem?_toArray, List.getElem?_cons_succ, List.getElem?_cons_zero, Option.getD_some, Act.put, List.setIfInBounds_toArray, List.set_cons_zero, List.set_cons_succ]) | ((with_reducible show wpD _ _ _ _ _ (⟨_, Op.load 23 _, _, _, _, _⟩ :: _) _); first | refine wd_valH rfl (fun w hH => ex_loadC 0 rfl rfl hH rfl ?_) ?_ | refine wd_valH rfl (fun w hH => ex_loadC 1 rfl rfl hH rfl ?_) ?_ | refine wd_valH rfl (fun w hH => ex_loadC 2 rfl rfl hH rfl ?_) ?_ | refine wd_valH rfl (fun w hH => ex_loadC 3 rfl rfl hH rfl ?_) ?_) | ((with_reducible show wpD _ _ _ _ _ (⟨_, Op.load 31 _, _, _, _, _⟩ :: _) _); first | refine wd_valH rfl (fun w hH => ex_loadC 0 rfl rfl hH rfl ?_) ?_ | refine wd_valH rfl (fun w hH => ex_loadC 1 rfl rfl hH rfl ?_) ?_ | refine wd_valH rfl (fun w hH => ex_loadC 2 rfl rfl hH rfl ?_) ?_ | refine wd_valH rfl (fun w hH => ex_loadC 3 rfl rfl hH rfl ?_) ?_) | refine wd_skip rfl ?_ | (refine wd_val (v := ?_) rfl ?_ ?_; rotate_left; focus (intro w; go_simp; try with_reducible rfl))) | ((with_reducible show Code.wp _ (Code.region 3 _ true) _ _ _); refine wp_draw 21 [] (by kernel_rfl) hH ?_) | ((with_reducible show wpD _ _ _ _ _ _ _); refine wd_done ?_; try dsimp only) | ((with_reducible show wpN _ _ _ _ _ _); refine wn_done ?_; try dsimp only)) <;> (first | ((with_reducible show wpList _ _ _ _ _ _); try simp only [Act.put, List.setIfInBounds_toArray, List.set_cons_zero, List.set_cons_succ]) | ((with_reducible show wpD _ _ _ _ _ _ _); try simp only [Act.put, List.setIfInBounds_toArray, List.set_cons_zero, List.set_cons_succ]) | (with_reducible show wpN _ _ _ _ _ _) | (with_reducible show Code.wp _ _ _ _ _) | (clear hH; intro w hH; (try simp only [List.nil_append, List.cons_append] at hH); (try simp only [Act.put, List.setIfInBounds_toArray, List.set_cons_zero, List.set_cons_succ] at hH ⊢)) | first | with_reducible assumption | omega | (simp only [List.length_set, List.length_replicate]; omega) | (simp; done) | (simp; omega))) | fail)
    go_ret
    exact ⟨rfl, hH.below⟩
  | false =>
    have h11 := h10 rfl
    clear h10
    refine ⟨fun w => ?_⟩
    obtain ⟨W, hW⟩ : ∃ W, W = w := ⟨_, rfl⟩
    have hH := Has.nil W
    rw [← hW]
    clear hW
    go_enter Try.func11, Try.ntmps11
    apply wp_seq_k; intro K1 hK1
    apply wp_region_lit
    refine wl_boxA rfl rfl rfl hH ?_
    clear hH; intro b1 w hH
    simp only [Act.put, List.setIfInBounds_toArray, List.set_cons_zero, List.set_cons_succ]
    go_wp2_with (first | ((first | ((with_reducible show wpList _ _ _ (_ :: _) _ _); first | (refine wl_allocA rfl rfl z31 hH ?_; clear hH; intro b2 w hH) | refine wl_callc rfl rfl (f := 22) rfl (args1 _ _) (h1) hH ?_ | refine wl_callc rfl rfl (f := 41) rfl (args1 _ _) (h2) hH ?_ | ((with_reducible show wpList _ _ _ (⟨_, Op.load 23 _, _, _, _, _⟩ :: _) _ _); first | refine wl_loadC 0 rfl rfl rfl hH rfl ?_ ?_ | refine wl_loadC 1 rfl rfl rfl hH rfl ?_ ?_ | refine wl_loadC 2 rfl rfl rfl hH rfl ?_ ?_ | refine wl_loadC 3 rfl rfl rfl hH rfl ?_ ?_) | ((with_reducible show wpList _ _ _ (⟨_, Op.load 31 _, _, _, _, _⟩ :: _) _ _); first | refine wl_loadC 0 rfl rfl rfl hH rfl ?_ ?_ | refine wl_loadC 1 rfl rfl rfl hH rfl ?_ ?_ | refine wl_loadC 2 rfl rfl rfl hH rfl ?_ ?_ | refine wl_loadC 3 rfl rfl rfl hH rfl ?_ ?_) | refine wl_storerowC 0 rfl rfl rfl rfl hH rfl ?_ ?_ ?_ | refine wl_storerowC 1 rfl rfl rfl rfl hH rfl ?_ ?_ ?_ | refine wl_storerowC 2 rfl rfl rfl rfl hH rfl ?_ ?_ ?_ | refine wl_storerowC 3 rfl rfl rfl rfl hH rfl ?_ ?_ ?_ | ((first | refine wl_val rfl (ex_assign rfl rfl) ?_); try simp only [Act.eval, Array.getD_eq_getD_getElem?, List.getElem?_toArray, List.getElem?_cons_succ, List.getElem?_cons_zero, Option.getD_some, Act.put, List.setIfInBounds_toArray, List.set_cons_zero, List.set_cons_succ])) | ((with_reducible show wpD _ _ _ _ _ (_ :: _) _); first | refine wd_call rfl rfl (f := 20) rfl (args0 _) (h0) ?_ | refine wd_call rfl rfl (f := 25) rfl (args1 _ _) (h3) ?_ | refine wd_call rfl rfl (f := 42) rfl (args1 _ _) (h4) ?_ | refine wd_call rfl rfl (f := 21) rfl (args2 _ _ _) (h5) ?_ | refine wd_call rfl rfl (f := 26) rfl (args1 _ _) (h6) ?_ | refine wd_call rfl (show _ = Op.call { callee := _, args := #[Operand.tmp 18, Operand.tmp 19], argTypes := _ } from rfl) (f := 37) rfl (args2 _ _ _) (h7) ?_ | refine wd_call rfl rfl (f := 23) rfl (args2 _ _ _) (h8) ?_ | refine wd_call rfl rfl (f := 26) rfl (args1 _ _) (h9) ?_ | refine wd_call rfl (show _ = Op.call { callee := _, args := #[Operand.tmp 24, Operand.tmp 25], argTypes := _ } from rfl) (f := 37) rfl (args2 _ _ _) (h11) ?_ | ((first | refine wd_val rfl (ex_move rfl rfl) ?_ | refine wd_val rfl (ex_assign rfl rfl) ?_); try simp only [Act.eval, Array.getD_eq_getD_getElem?, List.getElem?_toArray, List.getElem?_cons_succ, List.getElem?_cons_zero, Option.getD_some, Act.put, List.setIfInBounds_toArray, List.set_cons_zero, List.set_cons_succ]) | ((with_reducible show wpD _ _ _ _ _ (⟨_, Op.load 23 _, _, _, _, _⟩ :: _) _); first | refine wd_valH rfl (fun w hH => ex_loadC 0 rfl rfl hH rfl ?_) ?_ | refine wd_valH rfl (fun w hH => ex_loadC 1 rfl rfl hH rfl ?_) ?_ | refine wd_valH rfl (fun w hH => ex_loadC 2 rfl rfl hH rfl ?_) ?_ | refine wd_valH rfl (fun w hH => ex_loadC 3 rfl rfl hH rfl ?_) ?_) | ((with_reducible show wpD _ _ _ _ _ (⟨_, Op.load 31 _, _, _, _, _⟩ :: _) _); first | refine wd_valH rfl (fun w hH => ex_loadC 0 rfl rfl hH rfl ?_) ?_ | refine wd_valH rfl (fun w hH => ex_loadC 1 rfl rfl hH rfl ?_) ?_ | refine wd_valH rfl (fun w hH => ex_loadC 2 rfl rfl hH rfl ?_) ?_ | refine wd_valH rfl (fun w hH => ex_loadC 3 rfl rfl hH rfl ?_) ?_) | refine wd_skip rfl ?_ | (refine wd_val (v := ?_) rfl ?_ ?_; rotate_left; focus (intro w; go_simp; try with_reducible rfl))) | ((with_reducible show Code.wp _ (Code.region 3 _ true) _ _ _); refine wp_draw 21 [] (by kernel_rfl) hH ?_) | ((with_reducible show wpD _ _ _ _ _ _ _); refine wd_done ?_; try dsimp only) | ((with_reducible show wpN _ _ _ _ _ _); refine wn_done ?_; try dsimp only)) <;> (first | ((with_reducible show wpList _ _ _ _ _ _); try simp only [Act.put, List.setIfInBounds_toArray, List.set_cons_zero, List.set_cons_succ]) | ((with_reducible show wpD _ _ _ _ _ _ _); try simp only [Act.put, List.setIfInBounds_toArray, List.set_cons_zero, List.set_cons_succ]) | (with_reducible show wpN _ _ _ _ _ _) | (with_reducible show Code.wp _ _ _ _ _) | (clear hH; intro w hH; (try simp only [List.nil_append, List.cons_append] at hH); (try simp only [Act.put, List.setIfInBounds_toArray, List.set_cons_zero, List.set_cons_succ] at hH ⊢)) | first | with_reducible assumption | omega | (simp only [List.length_set, List.length_replicate]; omega) | (simp; done) | (simp; omega))) | fail)
    go_ret
    exact ⟨rfl, hH.below⟩
theorem law_inverse {l : List Nat} (hl : l.length = 32) (hb : ∀ i, l.getD i 0 < 256) : Ret 11 #[.agg (C .u8 l)] (.bool true) := by
  obtain ⟨a, la, ra⟩ := from_ex hl hb
  obtain ⟨i, li, ri⟩ := inv_ex la
  obtain ⟨z, lz, rz⟩ := small_ex (m := 0) (by decide)
  rw [zero_mod'] at lz
  obtain ⟨m, lm, rm⟩ := mul_ex la li
  obtain ⟨one, lo, ro⟩ := small_ex (m := 1) (by decide)
  rw [one_mod] at lo
  exact inverse_walk hl la.len li.len alive5_any ra ri (rfrom_ex hl hb) (rinv_ex (keyN_lt l)) (is_true li) rz (equal_lim la lz) rm ro (fun h => equal_true lm lo (mulN_inv (keyN_lt l) (of_decide_eq_false h)))

set_option maxRecDepth 100000 in
set_option maxHeartbeats 1000000 in
theorem squares_walk {l a s r z n y : List Nat} {o : Bool} (hl : l.length = 32) (ha : a.length = 5) (hr : r.length = 5) (hn : n.length = 5) (hy : (if o = true then n else a) = y) (h0 : Ret 20 #[] (.bool true)) (h1 : Ret 22 #[.agg (C .u8 l)] (.agg (C .u64 a)))
    (h2 : Ret 23 #[.agg (C .u64 a), .agg (C .u64 a)] (.agg (C .u64 s))) (h3 : Ret 43 #[.agg (C .u64 s)] (.tuple #[.agg (C .u64 r), .bool true])) (h4 : Ret 28 #[.agg (C .u64 a)] (.bool o)) (h5 : Ret 26 #[.int .i64 0] (.agg (C .u64 z)))
    (h6 : Ret 35 #[.agg (C .u64 z), .agg (C .u64 a)] (.agg (C .u64 n))) (h7 : Ret 37 #[.agg (C .u64 r), .agg (C .u64 y)] (.bool true)) (h8 : Ret 28 #[.agg (C .u64 r)] (.bool false)) :
    Ret 14 #[.agg (C .u8 l)] (.bool true) := by
  cases o with
  | true =>
    rw [if_pos rfl] at hy
    subst hy
    refine ⟨fun w => ?_⟩
    obtain ⟨W, hW⟩ : ∃ W, W = w := ⟨_, rfl⟩
    have hH := Has.nil W
    rw [← hW]
    clear hW
    go_enter Try.func14, Try.ntmps14
    apply wp_seq_k; intro K1 hK1
    apply wp_region_lit
    refine wl_boxA rfl rfl rfl hH ?_
    clear hH; intro b1 w hH
    simp only [Act.put, List.setIfInBounds_toArray, List.set_cons_zero, List.set_cons_succ]
    go_wp2_with (first | ((first | ((with_reducible show wpList _ _ _ (⟨_, _, _, _, _, some _⟩ :: _) _ _); refine wl_want rfl ?_) | ((with_reducible show wpList _ _ _ (_ :: _) _ _); first | (refine wl_allocA rfl rfl z31 hH ?_; clear hH; intro b2 w hH) | refine wl_callc rfl rfl (f := 22) rfl (args1 _ _) (h1) hH ?_ | refine wl_callc rfl rfl (f := 23) rfl (args2 _ _ _) (h2) hH ?_ | refine wl_callc rfl rfl (f := 43) rfl (args1 _ _) (h3) hH ?_ | refine wl_callc rfl (show _ = Op.call { callee := _, args := #[Operand.tmp 15], argTypes := _ } from rfl) (f := 28) rfl (args1 _ _) (h4) hH ?_ | refine wl_callc rfl rfl (f := 20) rfl (args0 _) (h0) hH ?_ | refine wl_callc rfl rfl (f := 37) rfl (args2 _ _ _) (h7) hH ?_ | refine wl_callc rfl (show _ = Op.call { callee := _, args := #[Operand.tmp 30], argTypes := _ } from rfl) (f := 28) rfl (args1 _ _) (h8) hH ?_ | refine wl_val rfl (ex_not rfl rfl) ?_ | ((with_reducible show wpList _ _ _ (⟨_, Op.load 23 _, _, _, _, _⟩ :: _) _ _); first | refine wl_loadC 0 rfl rfl rfl hH rfl ?_ ?_ | refine wl_loadC 1 rfl rfl rfl hH rfl ?_ ?_ | refine wl_loadC 2 rfl rfl rfl hH rfl ?_ ?_ | refine wl_loadC 3 rfl rfl rfl hH rfl ?_ ?_) | ((with_reducible show wpList _ _ _ (⟨_, Op.load 31 _, _, _, _, _⟩ :: _) _ _); first | refine wl_loadC 0 rfl rfl rfl hH rfl ?_ ?_ | refine wl_loadC 1 rfl rfl rfl hH rfl ?_ ?_ | refine wl_loadC 2 rfl rfl rfl hH rfl ?_ ?_ | refine wl_loadC 3 rfl rfl rfl hH rfl ?_ ?_) | refine wl_storerowC 0 rfl rfl rfl rfl hH rfl ?_ ?_ ?_ | refine wl_storerowC 1 rfl rfl rfl rfl hH rfl ?_ ?_ ?_ | refine wl_storerowC 2 rfl rfl rfl rfl hH rfl ?_ ?_ ?_ | refine wl_storerowC 3 rfl rfl rfl rfl hH rfl ?_ ?_ ?_ | ((first | refine wl_val rfl (ex_move rfl rfl) ?_ | refine wl_val rfl (ex_assign rfl rfl) ?_ | refine wl_val rfl (ex_extract rfl rfl rfl) ?_); try simp only [Act.eval, Array.getD_eq_getD_getElem?, List.getElem?_toArray, List.getElem?_cons_succ, List.getElem?_cons_zero, Option.getD_some, Act.put, List.setIfInBounds_toArray, List.set_cons_zero, List.set_cons_succ])) | ((with_reducible show wpD _ _ _ _ _ (_ :: _) _); first | refine wd_call rfl rfl (f := 26) rfl (args1 _ _) (h5) ?_ | refine wd_call rfl rfl (f := 35) rfl (args2 _ _ _) (h6) ?_ | refine wd_valH rfl (fun w hH => ex_loadC 0 rfl rfl hH rfl ?_) ?_ | refine wd_valH rfl (fun w hH => ex_loadC 1 rfl rfl hH rfl ?_) ?_ | refine wd_valH rfl (fun w hH => ex_loadC 2 rfl rfl hH rfl ?_) ?_ | refine wd_valH rfl (fun w hH => ex_loadC 3 rfl rfl hH rfl ?_) ?_ | refine wd_skip rfl ?_ | (refine wd_val (v := ?_) rfl ?_ ?_; rotate_left; focus (intro w; go_simp; try with_reducible rfl))) | ((with_reducible show Code.wp _ (Code.region 4 _ true) _ _ _); refine wp_draw 3 [] (by kernel_rfl) hH ?_) | ((with_reducible show wpD _ _ _ _ _ _ _); refine wd_done ?_; try dsimp only) | ((with_reducible show wpN _ _ _ _ _ _); refine wn_done ?_; try dsimp only)) <;> (first | ((with_reducible show wpList _ _ _ _ _ _); try simp only [Act.put, List.setIfInBounds_toArray, List.set_cons_zero, List.set_cons_succ]) | ((with_reducible show wpD _ _ _ _ _ _ _); try simp only [Act.put, List.setIfInBounds_toArray, List.set_cons_zero, List.set_cons_succ]) | (with_reducible show wpN _ _ _ _ _ _) | (with_reducible show Code.wp _ _ _ _ _) | (clear hH; intro w hH; (try simp only [List.nil_append, List.cons_append] at hH); (try simp only [Act.put, List.setIfInBounds_toArray, List.set_cons_zero, List.set_cons_succ] at hH ⊢)) | first | with_reducible assumption | omega | (simp only [List.length_set, List.length_replicate]; omega) | (simp; done) | (simp; omega))) | fail)
    go_ret
    exact ⟨rfl, hH.below⟩
  | false =>
    rw [if_neg (by simp)] at hy
    subst hy
    refine ⟨fun w => ?_⟩
    obtain ⟨W, hW⟩ : ∃ W, W = w := ⟨_, rfl⟩
    have hH := Has.nil W
    rw [← hW]
    clear hW
    go_enter Try.func14, Try.ntmps14
    apply wp_seq_k; intro K1 hK1
    apply wp_region_lit
    refine wl_boxA rfl rfl rfl hH ?_
    clear hH; intro b1 w hH
    simp only [Act.put, List.setIfInBounds_toArray, List.set_cons_zero, List.set_cons_succ]
    go_wp2_with (first | ((first | ((with_reducible show wpList _ _ _ (⟨_, _, _, _, _, some _⟩ :: _) _ _); refine wl_want rfl ?_) | ((with_reducible show wpList _ _ _ (_ :: _) _ _); first | (refine wl_allocA rfl rfl z31 hH ?_; clear hH; intro b2 w hH) | refine wl_callc rfl rfl (f := 22) rfl (args1 _ _) (h1) hH ?_ | refine wl_callc rfl rfl (f := 23) rfl (args2 _ _ _) (h2) hH ?_ | refine wl_callc rfl rfl (f := 43) rfl (args1 _ _) (h3) hH ?_ | refine wl_callc rfl (show _ = Op.call { callee := _, args := #[Operand.tmp 15], argTypes := _ } from rfl) (f := 28) rfl (args1 _ _) (h4) hH ?_ | refine wl_callc rfl rfl (f := 20) rfl (args0 _) (h0) hH ?_ | refine wl_callc rfl rfl (f := 37) rfl (args2 _ _ _) (h7) hH ?_ | refine wl_callc rfl (show _ = Op.call { callee := _, args := #[Operand.tmp 30], argTypes := _ } from rfl) (f := 28) rfl (args1 _ _) (h8) hH ?_ | refine wl_val rfl (ex_not rfl rfl) ?_ | ((with_reducible show wpList _ _ _ (⟨_, Op.load 23 _, _, _, _, _⟩ :: _) _ _); first | refine wl_loadC 0 rfl rfl rfl hH rfl ?_ ?_ | refine wl_loadC 1 rfl rfl rfl hH rfl ?_ ?_ | refine wl_loadC 2 rfl rfl rfl hH rfl ?_ ?_ | refine wl_loadC 3 rfl rfl rfl hH rfl ?_ ?_) | ((with_reducible show wpList _ _ _ (⟨_, Op.load 31 _, _, _, _, _⟩ :: _) _ _); first | refine wl_loadC 0 rfl rfl rfl hH rfl ?_ ?_ | refine wl_loadC 1 rfl rfl rfl hH rfl ?_ ?_ | refine wl_loadC 2 rfl rfl rfl hH rfl ?_ ?_ | refine wl_loadC 3 rfl rfl rfl hH rfl ?_ ?_) | refine wl_storerowC 0 rfl rfl rfl rfl hH rfl ?_ ?_ ?_ | refine wl_storerowC 1 rfl rfl rfl rfl hH rfl ?_ ?_ ?_ | refine wl_storerowC 2 rfl rfl rfl rfl hH rfl ?_ ?_ ?_ | refine wl_storerowC 3 rfl rfl rfl rfl hH rfl ?_ ?_ ?_ | ((first | refine wl_val rfl (ex_move rfl rfl) ?_ | refine wl_val rfl (ex_assign rfl rfl) ?_ | refine wl_val rfl (ex_extract rfl rfl rfl) ?_); try simp only [Act.eval, Array.getD_eq_getD_getElem?, List.getElem?_toArray, List.getElem?_cons_succ, List.getElem?_cons_zero, Option.getD_some, Act.put, List.setIfInBounds_toArray, List.set_cons_zero, List.set_cons_succ])) | ((with_reducible show wpD _ _ _ _ _ (_ :: _) _); first | refine wd_call rfl rfl (f := 26) rfl (args1 _ _) (h5) ?_ | refine wd_call rfl rfl (f := 35) rfl (args2 _ _ _) (h6) ?_ | refine wd_valH rfl (fun w hH => ex_loadC 0 rfl rfl hH rfl ?_) ?_ | refine wd_valH rfl (fun w hH => ex_loadC 1 rfl rfl hH rfl ?_) ?_ | refine wd_valH rfl (fun w hH => ex_loadC 2 rfl rfl hH rfl ?_) ?_ | refine wd_valH rfl (fun w hH => ex_loadC 3 rfl rfl hH rfl ?_) ?_ | refine wd_skip rfl ?_ | (refine wd_val (v := ?_) rfl ?_ ?_; rotate_left; focus (intro w; go_simp; try with_reducible rfl))) | ((with_reducible show Code.wp _ (Code.region 4 _ true) _ _ _); refine wp_draw 3 [] (by kernel_rfl) hH ?_) | ((with_reducible show wpD _ _ _ _ _ _ _); refine wd_done ?_; try dsimp only) | ((with_reducible show wpN _ _ _ _ _ _); refine wn_done ?_; try dsimp only)) <;> (first | ((with_reducible show wpList _ _ _ _ _ _); try simp only [Act.put, List.setIfInBounds_toArray, List.set_cons_zero, List.set_cons_succ]) | ((with_reducible show wpD _ _ _ _ _ _ _); try simp only [Act.put, List.setIfInBounds_toArray, List.set_cons_zero, List.set_cons_succ]) | (with_reducible show wpN _ _ _ _ _ _) | (with_reducible show Code.wp _ _ _ _ _) | (clear hH; intro w hH; (try simp only [List.nil_append, List.cons_append] at hH); (try simp only [Act.put, List.setIfInBounds_toArray, List.set_cons_zero, List.set_cons_succ] at hH ⊢)) | first | with_reducible assumption | omega | (simp only [List.length_set, List.length_replicate]; omega) | (simp; done) | (simp; omega))) | fail)
    go_ret
    exact ⟨rfl, hH.below⟩
theorem law_squares {l : List Nat} (hl : l.length = 32) (hb : ∀ i, l.getD i 0 < 256) : Ret 14 #[.agg (C .u8 l)] (.bool true) := by
  obtain ⟨a, la, ra⟩ := from_ex hl hb
  obtain ⟨s, ls, rs⟩ := mul_ex la la
  obtain ⟨r, lr, rr⟩ := root_ex ls
  obtain ⟨z, lz, rz⟩ := small_ex (m := 0) (by decide)
  rw [zero_mod'] at lz
  obtain ⟨n, ln, rn⟩ := sub_ex lz la
  have hx := keyN_lt l
  rw [root_sq hx] at rr
  have ho := odd_lim lr
  rw [decide_eq_false (by rw [root_even]; decide)] at ho
  have ly : Lim (if decide (keyN l % 2 = 1) = true then n else a) (if keyN l % 2 = 1 then subN 0 (keyN l) else keyN l) := by
    by_cases h : keyN l % 2 = 1
    · simp only [h, decide_true, if_true]; exact ln
    · simp only [h, decide_false, Bool.false_eq_true, if_false]; exact la
  exact squares_walk hl la.len lr.len ln.len rfl alive5_any ra rs rr (odd_lim la) rz rn (equal_true lr ly (root_sqv hx)) ho

set_option maxRecDepth 100000 in
set_option maxHeartbeats 1000000 in
theorem divides_walk {l m a b d n s i p q i2 : List Nat} {z : Bool} (hl : l.length = 32) (hm : m.length = 32) (ha : a.length = 5) (hb : b.length = 5) (h0 : Ret 20 #[] (.bool true)) (h1 : Ret 22 #[.agg (C .u8 l)] (.agg (C .u64 a))) (h2 : Ret 22 #[.agg (C .u8 m)] (.agg (C .u64 b)))
    (h3 : Ret 35 #[.agg (C .u64 a), .agg (C .u64 a)] (.agg (C .u64 d))) (h4 : Ret 37 #[.agg (C .u64 d), .agg (C .u64 [0, 0, 0, 0, 0])] (.bool true)) (h5 : Ret 35 #[.agg (C .u64 [0, 0, 0, 0, 0]), .agg (C .u64 a)] (.agg (C .u64 n)))
    (h6 : Ret 33 #[.agg (C .u64 a), .agg (C .u64 n)] (.agg (C .u64 s))) (h7 : Ret 37 #[.agg (C .u64 s), .agg (C .u64 [0, 0, 0, 0, 0])] (.bool true)) (h8 : Ret 37 #[.agg (C .u64 b), .agg (C .u64 [0, 0, 0, 0, 0])] (.bool z)) (h9 : Ret 41 #[.agg (C .u64 b)] (.agg (C .u64 i)))
    (h10 : z = true → Ret 37 #[.agg (C .u64 i), .agg (C .u64 [0, 0, 0, 0, 0])] (.bool true)) (h11 : Ret 23 #[.agg (C .u64 a), .agg (C .u64 i)] (.agg (C .u64 p))) (h12 : Ret 23 #[.agg (C .u64 p), .agg (C .u64 b)] (.agg (C .u64 q)))
    (h13 : z = false → Ret 37 #[.agg (C .u64 q), .agg (C .u64 a)] (.bool true)) (h14 : Ret 41 #[.agg (C .u64 i)] (.agg (C .u64 i2))) (h15 : z = false → Ret 37 #[.agg (C .u64 i2), .agg (C .u64 b)] (.bool true)) :
    Ret 12 #[.agg (C .u8 l), .agg (C .u8 m)] (.bool true) := by
  cases z with
  | true =>
    have h16 := h10 rfl
    clear h10 h13 h15
    refine ⟨fun w => ?_⟩
    obtain ⟨W, hW⟩ : ∃ W, W = w := ⟨_, rfl⟩
    have hH := Has.nil W
    rw [← hW]
    clear hW
    go_enter Try.func12, Try.ntmps12
    apply wp_seq_k; intro K1 hK1
    apply wp_region_lit
    refine wl_boxA rfl rfl rfl hH ?_
    clear hH; intro b1 w hH
    simp only [Act.put, List.setIfInBounds_toArray, List.set_cons_zero, List.set_cons_succ]
    refine wl_boxA rfl rfl rfl hH ?_
    clear hH; intro b2 w hH
    simp only [Act.put, List.setIfInBounds_toArray, List.set_cons_zero, List.set_cons_succ]
    go_wp2_with (first | ((first | ((with_reducible show wpList _ _ _ (_ :: _) _ _); first | refine wl_callc rfl (show _ = Op.call { callee := _, args := #[Operand.tmp 16, Operand.tmp 17], argTypes := _ } from rfl) (f := 37) rfl (args2 _ _ _) (h4) hH ?_ | refine wl_callc rfl (show _ = Op.call { callee := _, args := #[Operand.tmp 26, Operand.tmp 27], argTypes := _ } from rfl) (f := 37) rfl (args2 _ _ _) (h7) hH ?_ | refine wl_callc rfl (show _ = Op.call { callee := _, args := #[Operand.tmp 31, Operand.tmp 32], argTypes := _ } from rfl) (f := 37) rfl (args2 _ _ _) (h8) hH ?_ | refine wl_callc rfl (show _ = Op.call { callee := _, args := #[Operand.tmp 34], argTypes := _ } from rfl) (f := 41) rfl (args1 _ _) (h9) hH ?_ | refine wl_callc rfl (show _ = Op.call { callee := _, args := #[Operand.tmp 35, Operand.tmp 36], argTypes := _ } from rfl) (f := 37) rfl (args2 _ _ _) (h16) hH ?_ | refine wl_loadC 0 rfl rfl rfl hH rfl ?_ ?_ | refine wl_loadC 1 rfl rfl rfl hH rfl ?_ ?_ | refine wl_loadC 2 rfl rfl rfl hH rfl ?_ ?_ | refine wl_loadC 3 rfl rfl rfl hH rfl ?_ ?_ | refine wl_storerowC 0 rfl rfl rfl rfl hH rfl ?_ ?_ ?_ | refine wl_storerowC 1 rfl rfl rfl rfl hH rfl ?_ ?_ ?_ | refine wl_storerowC 2 rfl rfl rfl rfl hH rfl ?_ ?_ ?_ | refine wl_storerowC 3 rfl rfl rfl rfl hH rfl ?_ ?_ ?_ | refine wl_val rfl (ex_build rfl (b31_0)) ?_ | refine wl_val rfl (ex_build rfl (b31_1 ?_)) ?_ | ((first | refine wl_val rfl (ex_assign rfl rfl) ?_); try simp only [Act.eval, Array.getD_eq_getD_getElem?, List.getElem?_toArray, List.getElem?_cons_succ, List.getElem?_cons_zero, Option.getD_some, Act.put, List.setIfInBounds_toArray, List.set_cons_zero, List.set_cons_succ])) | ((with_reducible show wpD _ _ _ _ _ (_ :: _) _); first | refine wd_call rfl (show _ = Op.call { callee := _, args := #[Operand.tmp 7], argTypes := _ } from rfl) (f := 22) rfl (args1 _ _) (h1) ?_ | refine wd_call rfl (show _ = Op.call { callee := _, args := #[Operand.tmp 9], argTypes := _ } from rfl) (f := 22) rfl (args1 _ _) (h2) ?_ | refine wd_call rfl rfl (f := 20) rfl (args0 _) (h0) ?_ | refine wd_call rfl (show _ = Op.call { callee := _, args := #[Operand.tmp 14, Operand.tmp 15], argTypes := _ } from rfl) (f := 35) rfl (args2 _ _ _) (h3) ?_ | refine wd_call rfl (show _ = Op.call { callee := _, args := #[Operand.tmp 16, Operand.tmp 17], argTypes := _ } from rfl) (f := 37) rfl (args2 _ _ _) (h4) ?_ | refine wd_call rfl (show _ = Op.call { callee := _, args := #[Operand.tmp 23, Operand.tmp 24], argTypes := _ } from rfl) (f := 35) rfl (args2 _ _ _) (h5) ?_ | refine wd_call rfl rfl (f := 33) rfl (args2 _ _ _) (h6) ?_ | refine wd_call rfl (show _ = Op.call { callee := _, args := #[Operand.tmp 26, Operand.tmp 27], argTypes := _ } from rfl) (f := 37) rfl (args2 _ _ _) (h7) ?_ | refine wd_call rfl (show _ = Op.call { callee := _, args := #[Operand.tmp 31, Operand.tmp 32], argTypes := _ } from rfl) (f := 37) rfl (args2 _ _ _) (h8) ?_ | refine wd_call rfl (show _ = Op.call { callee := _, args := #[Operand.tmp 34], argTypes := _ } from rfl) (f := 41) rfl (args1 _ _) (h9) ?_ | refine wd_call rfl (show _ = Op.call { callee := _, args := #[Operand.tmp 35, Operand.tmp 36], argTypes := _ } from rfl) (f := 37) rfl (args2 _ _ _) (h16) ?_ | refine wd_val rfl (ex_not rfl rfl) ?_ | refine wd_val rfl (ex_build rfl (b31_0)) ?_ | refine wd_val rfl (ex_build rfl (b31_1 ?_)) ?_ | ((first | refine wd_val rfl (ex_move rfl rfl) ?_ | refine wd_val rfl (ex_assign rfl rfl) ?_); try simp only [Act.eval, Array.getD_eq_getD_getElem?, List.getElem?_toArray, List.getElem?_cons_succ, List.getElem?_cons_zero, Option.getD_some, Act.put, List.setIfInBounds_toArray, List.set_cons_zero, List.set_cons_succ]) | ((with_reducible show wpD _ _ _ _ _ (⟨_, Op.load 23 _, _, _, _, _⟩ :: _) _); first | refine wd_valH rfl (fun w hH => ex_loadC 0 rfl rfl hH rfl ?_) ?_ | refine wd_valH rfl (fun w hH => ex_loadC 1 rfl rfl hH rfl ?_) ?_ | refine wd_valH rfl (fun w hH => ex_loadC 2 rfl rfl hH rfl ?_) ?_ | refine wd_valH rfl (fun w hH => ex_loadC 3 rfl rfl hH rfl ?_) ?_) | ((with_reducible show wpD _ _ _ _ _ (⟨_, Op.load 31 _, _, _, _, _⟩ :: _) _); first | refine wd_valH rfl (fun w hH => ex_loadC 0 rfl rfl hH rfl ?_) ?_ | refine wd_valH rfl (fun w hH => ex_loadC 1 rfl rfl hH rfl ?_) ?_ | refine wd_valH rfl (fun w hH => ex_loadC 2 rfl rfl hH rfl ?_) ?_ | refine wd_valH rfl (fun w hH => ex_loadC 3 rfl rfl hH rfl ?_) ?_) | refine wd_skip rfl ?_ | (refine wd_val (v := ?_) rfl ?_ ?_; rotate_left; focus (intro w; go_simp; try with_reducible rfl))) | ((with_reducible show Code.wp _ (Code.region 1 _ true) _ _ _); refine wp_draw 4 [(C .u64 [0, 0, 0, 0, 0], 31), (C .u64 [0, 0, 0, 0, 0], 31)] (by kernel_rfl) hH ?_) | ((refine wn_alloc rfl rfl z31 ?_; intro bn; try dsimp only)) | ((with_reducible show Code.wp _ (Code.region 2 _ true) _ _ _); refine wp_draw 20 [] (by kernel_rfl) hH ?_) | ((with_reducible show wpD _ _ _ _ _ _ _); refine wd_done ?_; try dsimp only) | ((with_reducible show wpN _ _ _ _ _ _); refine wn_done ?_; try dsimp only)) <;> (first | ((with_reducible show wpList _ _ _ _ _ _); try simp only [Act.put, List.setIfInBounds_toArray, List.set_cons_zero, List.set_cons_succ]) | ((with_reducible show wpD _ _ _ _ _ _ _); try simp only [Act.put, List.setIfInBounds_toArray, List.set_cons_zero, List.set_cons_succ]) | (with_reducible show wpN _ _ _ _ _ _) | (with_reducible show Code.wp _ _ _ _ _) | (clear hH; intro w hH; (try simp only [List.nil_append, List.cons_append] at hH); (try simp only [Act.put, List.setIfInBounds_toArray, List.set_cons_zero, List.set_cons_succ] at hH ⊢)) | first | with_reducible assumption | omega | (simp only [List.length_set, List.length_replicate]; omega) | (simp; done) | (simp; omega))) | fail)
    go_ret
    exact ⟨rfl, hH.below⟩
  | false =>
    have h16 := h13 rfl
    have h17 := h15 rfl
    clear h10 h13 h15
    refine ⟨fun w => ?_⟩
    obtain ⟨W, hW⟩ : ∃ W, W = w := ⟨_, rfl⟩
    have hH := Has.nil W
    rw [← hW]
    clear hW
    go_enter Try.func12, Try.ntmps12
    apply wp_seq_k; intro K1 hK1
    apply wp_region_lit
    refine wl_boxA rfl rfl rfl hH ?_
    clear hH; intro b1 w hH
    simp only [Act.put, List.setIfInBounds_toArray, List.set_cons_zero, List.set_cons_succ]
    refine wl_boxA rfl rfl rfl hH ?_
    clear hH; intro b2 w hH
    simp only [Act.put, List.setIfInBounds_toArray, List.set_cons_zero, List.set_cons_succ]
    go_wp2_with (first | ((first | ((with_reducible show wpList _ _ _ (_ :: _) _ _); first | refine wl_callc rfl (show _ = Op.call { callee := _, args := #[Operand.tmp 16, Operand.tmp 17], argTypes := _ } from rfl) (f := 37) rfl (args2 _ _ _) (h4) hH ?_ | refine wl_callc rfl (show _ = Op.call { callee := _, args := #[Operand.tmp 26, Operand.tmp 27], argTypes := _ } from rfl) (f := 37) rfl (args2 _ _ _) (h7) hH ?_ | refine wl_callc rfl (show _ = Op.call { callee := _, args := #[Operand.tmp 31, Operand.tmp 32], argTypes := _ } from rfl) (f := 37) rfl (args2 _ _ _) (h8) hH ?_ | refine wl_callc rfl (show _ = Op.call { callee := _, args := #[Operand.tmp 39], argTypes := _ } from rfl) (f := 41) rfl (args1 _ _) (h9) hH ?_ | refine wl_callc rfl (show _ = Op.call { callee := _, args := #[Operand.tmp 43, Operand.tmp 44], argTypes := _ } from rfl) (f := 37) rfl (args2 _ _ _) (h16) hH ?_ | refine wl_callc rfl (show _ = Op.call { callee := _, args := #[Operand.tmp 47], argTypes := _ } from rfl) (f := 41) rfl (args1 _ _) (h9) hH ?_ | refine wl_callc rfl (show _ = Op.call { callee := _, args := #[Operand.tmp 48], argTypes := _ } from rfl) (f := 41) rfl (args1 _ _) (h14) hH ?_ | refine wl_callc rfl (show _ = Op.call { callee := _, args := #[Operand.tmp 49, Operand.tmp 50], argTypes := _ } from rfl) (f := 37) rfl (args2 _ _ _) (h17) hH ?_ | refine wl_loadC 0 rfl rfl rfl hH rfl ?_ ?_ | refine wl_loadC 1 rfl rfl rfl hH rfl ?_ ?_ | refine wl_loadC 2 rfl rfl rfl hH rfl ?_ ?_ | refine wl_loadC 3 rfl rfl rfl hH rfl ?_ ?_ | refine wl_storerowC 0 rfl rfl rfl rfl hH rfl ?_ ?_ ?_ | refine wl_storerowC 1 rfl rfl rfl rfl hH rfl ?_ ?_ ?_ | refine wl_storerowC 2 rfl rfl rfl rfl hH rfl ?_ ?_ ?_ | refine wl_storerowC 3 rfl rfl rfl rfl hH rfl ?_ ?_ ?_ | refine wl_val rfl (ex_build rfl (b31_0)) ?_ | refine wl_val rfl (ex_build rfl (b31_1 ?_)) ?_ | ((first | refine wl_val rfl (ex_assign rfl rfl) ?_); try simp only [Act.eval, Array.getD_eq_getD_getElem?, List.getElem?_toArray, List.getElem?_cons_succ, List.getElem?_cons_zero, Option.getD_some, Act.put, List.setIfInBounds_toArray, List.set_cons_zero, List.set_cons_succ])) | ((with_reducible show wpD _ _ _ _ _ (_ :: _) _); first | refine wd_call rfl (show _ = Op.call { callee := _, args := #[Operand.tmp 7], argTypes := _ } from rfl) (f := 22) rfl (args1 _ _) (h1) ?_ | refine wd_call rfl (show _ = Op.call { callee := _, args := #[Operand.tmp 9], argTypes := _ } from rfl) (f := 22) rfl (args1 _ _) (h2) ?_ | refine wd_call rfl rfl (f := 20) rfl (args0 _) (h0) ?_ | refine wd_call rfl (show _ = Op.call { callee := _, args := #[Operand.tmp 14, Operand.tmp 15], argTypes := _ } from rfl) (f := 35) rfl (args2 _ _ _) (h3) ?_ | refine wd_call rfl (show _ = Op.call { callee := _, args := #[Operand.tmp 16, Operand.tmp 17], argTypes := _ } from rfl) (f := 37) rfl (args2 _ _ _) (h4) ?_ | refine wd_call rfl (show _ = Op.call { callee := _, args := #[Operand.tmp 23, Operand.tmp 24], argTypes := _ } from rfl) (f := 35) rfl (args2 _ _ _) (h5) ?_ | refine wd_call rfl rfl (f := 33) rfl (args2 _ _ _) (h6) ?_ | refine wd_call rfl (show _ = Op.call { callee := _, args := #[Operand.tmp 26, Operand.tmp 27], argTypes := _ } from rfl) (f := 37) rfl (args2 _ _ _) (h7) ?_ | refine wd_call rfl (show _ = Op.call { callee := _, args := #[Operand.tmp 31, Operand.tmp 32], argTypes := _ } from rfl) (f := 37) rfl (args2 _ _ _) (h8) ?_ | refine wd_call rfl (show _ = Op.call { callee := _, args := #[Operand.tmp 39], argTypes := _ } from rfl) (f := 41) rfl (args1 _ _) (h9) ?_ | refine wd_call rfl (show _ = Op.call { callee := _, args := #[Operand.tmp 38, Operand.tmp 40], argTypes := _ } from rfl) (f := 23) rfl (args2 _ _ _) (h11) ?_ | refine wd_call rfl (show _ = Op.call { callee := _, args := #[Operand.tmp 41, Operand.tmp 42], argTypes := _ } from rfl) (f := 23) rfl (args2 _ _ _) (h12) ?_ | refine wd_call rfl (show _ = Op.call { callee := _, args := #[Operand.tmp 43, Operand.tmp 44], argTypes := _ } from rfl) (f := 37) rfl (args2 _ _ _) (h16) ?_ | refine wd_call rfl (show _ = Op.call { callee := _, args := #[Operand.tmp 47], argTypes := _ } from rfl) (f := 41) rfl (args1 _ _) (h9) ?_ | refine wd_call rfl (show _ = Op.call { callee := _, args := #[Operand.tmp 48], argTypes := _ } from rfl) (f := 41) rfl (args1 _ _) (h14) ?_ | refine wd_call rfl (show _ = Op.call { callee := _, args := #[Operand.tmp 49, Operand.tmp 50], argTypes := _ } from rfl) (f := 37) rfl (args2 _ _ _) (h17) ?_ | refine wd_val rfl (ex_not rfl rfl) ?_ | refine wd_val rfl (ex_build rfl (b31_0)) ?_ | refine wd_val rfl (ex_build rfl (b31_1 ?_)) ?_ | ((first | refine wd_val rfl (ex_move rfl rfl) ?_ | refine wd_val rfl (ex_assign rfl rfl) ?_); try simp only [Act.eval, Array.getD_eq_getD_getElem?, List.getElem?_toArray, List.getElem?_cons_succ, List.getElem?_cons_zero, Option.getD_some, Act.put, List.setIfInBounds_toArray, List.set_cons_zero, List.set_cons_succ]) | ((with_reducible show wpD _ _ _ _ _ (⟨_, Op.load 23 _, _, _, _, _⟩ :: _) _); first | refine wd_valH rfl (fun w hH => ex_loadC 0 rfl rfl hH rfl ?_) ?_ | refine wd_valH rfl (fun w hH => ex_loadC 1 rfl rfl hH rfl ?_) ?_ | refine wd_valH rfl (fun w hH => ex_loadC 2 rfl rfl hH rfl ?_) ?_ | refine wd_valH rfl (fun w hH => ex_loadC 3 rfl rfl hH rfl ?_) ?_) | ((with_reducible show wpD _ _ _ _ _ (⟨_, Op.load 31 _, _, _, _, _⟩ :: _) _); first | refine wd_valH rfl (fun w hH => ex_loadC 0 rfl rfl hH rfl ?_) ?_ | refine wd_valH rfl (fun w hH => ex_loadC 1 rfl rfl hH rfl ?_) ?_ | refine wd_valH rfl (fun w hH => ex_loadC 2 rfl rfl hH rfl ?_) ?_ | refine wd_valH rfl (fun w hH => ex_loadC 3 rfl rfl hH rfl ?_) ?_) | refine wd_skip rfl ?_ | (refine wd_val (v := ?_) rfl ?_ ?_; rotate_left; focus (intro w; go_simp; try with_reducible rfl))) | ((with_reducible show Code.wp _ (Code.region 1 _ true) _ _ _); refine wp_draw 4 [(C .u64 [0, 0, 0, 0, 0], 31), (C .u64 [0, 0, 0, 0, 0], 31)] (by kernel_rfl) hH ?_) | ((refine wn_alloc rfl rfl z31 ?_; intro bn; try dsimp only)) | ((with_reducible show Code.wp _ (Code.region 2 _ true) _ _ _); refine wp_draw 20 [] (by kernel_rfl) hH ?_) | ((with_reducible show Code.wp _ (Code.region 6 _ true) _ _ _); refine wp_draw 16 [] (by kernel_rfl) hH ?_) | ((with_reducible show wpD _ _ _ _ _ _ _); refine wd_done ?_; try dsimp only) | ((with_reducible show wpN _ _ _ _ _ _); refine wn_done ?_; try dsimp only)) <;> (first | ((with_reducible show wpList _ _ _ _ _ _); try simp only [Act.put, List.setIfInBounds_toArray, List.set_cons_zero, List.set_cons_succ]) | ((with_reducible show wpD _ _ _ _ _ _ _); try simp only [Act.put, List.setIfInBounds_toArray, List.set_cons_zero, List.set_cons_succ]) | (with_reducible show wpN _ _ _ _ _ _) | (with_reducible show Code.wp _ _ _ _ _) | (clear hH; intro w hH; (try simp only [List.nil_append, List.cons_append] at hH); (try simp only [Act.put, List.setIfInBounds_toArray, List.set_cons_zero, List.set_cons_succ] at hH ⊢)) | first | with_reducible assumption | omega | (simp only [List.length_set, List.length_replicate]; omega) | (simp; done) | (simp; omega))) | fail)
    go_ret
    exact ⟨rfl, hH.below⟩
theorem law_divides {l m : List Nat} (hl : l.length = 32) (hlb : ∀ i, l.getD i 0 < 256) (hm : m.length = 32) (hmb : ∀ i, m.getD i 0 < 256) :
    Ret 12 #[.agg (C .u8 l), .agg (C .u8 m)] (.bool true) := by
  obtain ⟨a, la, ra⟩ := from_ex hl hlb
  obtain ⟨b, lb, rb⟩ := from_ex hm hmb
  have xa := la.x_lt
  have xb := lb.x_lt
  obtain ⟨d, l1, r1⟩ := sub_ex la la
  obtain ⟨n, l2, r2⟩ := sub_ex zero_lim la
  obtain ⟨s, l3, r3⟩ := add_ex la l2
  obtain ⟨i, l4, r4⟩ := inv_ex lb
  obtain ⟨p, l5, r5⟩ := mul_ex la l4
  obtain ⟨q, l6, r6⟩ := mul_ex l5 lb
  obtain ⟨i2, l7, r7⟩ := inv_ex l4
  exact divides_walk hl hm la.len lb.len alive5_any ra rb r1 (equal_true l1 zero_lim (subN_self xa)) r2 r3 (equal_true l3 zero_lim (addN_neg xa)) (equal_lim lb zero_lim) r4 (fun h => equal_true l4 zero_lim (inv_zero (of_decide_eq_true h)))
    r5 r6 (fun h => equal_true l6 la (div_mul xa xb (of_decide_eq_false h))) r7 (fun h => equal_true l7 lb (inv_inv xb (of_decide_eq_false h)))
end Go.Proofs.Ytmbbdblmengdhaa
