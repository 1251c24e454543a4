/- Walks of the laws: FieldSums, FieldRing. -/
import Derived.Test.YtmbbdblmengdhaaL0
import Derived.Test.YtmbbdblmengdhaaV11
import Derived.Test.YtmbbdblmengdhaaV12
set_option linter.unusedSimpArgs false
set_option linter.unusedVariables false
namespace Go.Proofs.Ytmbbdblmengdhaa
open Go.RowKit

set_option maxRecDepth 100000 in
set_option maxHeartbeats 1000000 in
theorem sums_walk {l m a b s t u v rs rt : List Nat} {q : Bool} (hl : l.length = 32) (hm : m.length = 32) (ha : a.length = 5) (hb : b.length = 5) (hu : u.length = 16) (hv : v.length = 16) (h0 : Ret 20 #[] (.bool true))
    (h1 : Ret 22 #[.agg (C .u8 l)] (.agg (C .u64 a))) (h2 : Ret 22 #[.agg (C .u8 m)] (.agg (C .u64 b))) (h3 : Ret 25 #[.agg (C .u8 l)] (.agg (C .i64 u))) (h4 : Ret 25 #[.agg (C .u8 m)] (.agg (C .i64 v)))
    (h5 : Ret 33 #[.agg (C .u64 a), .agg (C .u64 b)] (.agg (C .u64 s))) (h6 : Ret 34 #[.agg (C .i64 u), .agg (C .i64 v)] (.agg (C .i64 rs))) (h7 : Ret 21 #[.agg (C .u64 s), .agg (C .i64 rs)] (.bool true))
    (h8 : Ret 35 #[.agg (C .u64 a), .agg (C .u64 b)] (.agg (C .u64 t))) (h9 : Ret 36 #[.agg (C .i64 u), .agg (C .i64 v)] (.agg (C .i64 rt))) (h10 : Ret 21 #[.agg (C .u64 t), .agg (C .i64 rt)] (.bool true))
    (h11 : Ret 37 #[.agg (C .u64 a), .agg (C .u64 b)] (.bool q)) (h12 : Veil (decide (u = v) = q)) (h13 : Ret 37 #[.agg (C .u64 a), .agg (C .u64 a)] (.bool true)) :
    Ret 8 #[.agg (C .u8 l), .agg (C .u8 m)] (.bool true) := by
  have hq : Veil ((q == q) = true) := ⟨by simp⟩
  refine ⟨fun w => ?_⟩
  obtain ⟨W, hW⟩ : ∃ W, W = w := ⟨_, rfl⟩
  have hH := Has.nil W
  rw [← hW]
  clear hW
  go_enter Try.func8, Try.ntmps8
  apply wp_seq_k; intro K1 hK1
  apply wp_region_lit
  refine wl_boxA rfl rfl rfl hH ?_
  clear hH; intro b1 w hH
  simp only [Act.put, List.setIfInBounds_toArray, List.set_cons_zero, List.set_cons_succ]
  refine wl_boxA rfl rfl rfl hH ?_
  clear hH; intro b2 w hH
  simp only [Act.put, List.setIfInBounds_toArray, List.set_cons_zero, List.set_cons_succ]
  go_wp2_with (first | ((first | ((with_reducible show wpList _ _ _ (_ :: _) _ _); first | ((with_reducible show wpList _ _ _ (⟨_, Op.store 31 _ _, _, _, _, _⟩ :: _) _ _); first | refine wl_storerowC 0 rfl rfl rfl rfl hH rfl ?_ ?_ ?_ | refine wl_storerowC 1 rfl rfl rfl rfl hH rfl ?_ ?_ ?_ | refine wl_storerowC 2 rfl rfl rfl rfl hH rfl ?_ ?_ ?_ | refine wl_storerowC 3 rfl rfl rfl rfl hH rfl ?_ ?_ ?_ | refine wl_storerowC 4 rfl rfl rfl rfl hH rfl ?_ ?_ ?_ | refine wl_storerowC 5 rfl rfl rfl rfl hH rfl ?_ ?_ ?_) | ((with_reducible show wpList _ _ _ (⟨_, Op.store 35 _ _, _, _, _, _⟩ :: _) _ _); first | refine wl_storerowC 0 rfl rfl rfl rfl hH rfl ?_ ?_ ?_ | refine wl_storerowC 1 rfl rfl rfl rfl hH rfl ?_ ?_ ?_ | refine wl_storerowC 2 rfl rfl rfl rfl hH rfl ?_ ?_ ?_ | refine wl_storerowC 3 rfl rfl rfl rfl hH rfl ?_ ?_ ?_ | refine wl_storerowC 4 rfl rfl rfl rfl hH rfl ?_ ?_ ?_ | refine wl_storerowC 5 rfl rfl rfl rfl hH rfl ?_ ?_ ?_) | ((first | refine wl_val rfl (ex_assign rfl rfl) ?_); try simp only [Act.eval, Array.getD_eq_getD_getElem?, List.getElem?_toArray, List.getElem?_cons_succ, List.getElem?_cons_zero, Option.getD_some, Act.put, List.setIfInBounds_toArray, List.set_cons_zero, List.set_cons_succ])) | ((with_reducible show wpD _ _ _ _ _ (_ :: _) _); first | refine wd_call rfl rfl (f := 20) rfl (args0 _) (h0) ?_ | refine wd_call rfl (show _ = Op.call { callee := _, args := #[Operand.tmp 9], argTypes := _ } from rfl) (f := 22) rfl (args1 _ _) (h1) ?_ | refine wd_call rfl (show _ = Op.call { callee := _, args := #[Operand.tmp 11], argTypes := _ } from rfl) (f := 22) rfl (args1 _ _) (h2) ?_ | refine wd_call rfl (show _ = Op.call { callee := _, args := #[Operand.tmp 13], argTypes := _ } from rfl) (f := 25) rfl (args1 _ _) (h3) ?_ | refine wd_call rfl (show _ = Op.call { callee := _, args := #[Operand.tmp 15], argTypes := _ } from rfl) (f := 25) rfl (args1 _ _) (h4) ?_ | refine wd_call rfl rfl (f := 33) rfl (args2 _ _ _) (h5) ?_ | refine wd_call rfl rfl (f := 34) rfl (args2 _ _ _) (h6) ?_ | refine wd_call rfl (show _ = Op.call { callee := _, args := #[Operand.tmp 21, Operand.tmp 24], argTypes := _ } from rfl) (f := 21) rfl (args2 _ _ _) (h7) ?_ | refine wd_call rfl rfl (f := 35) rfl (args2 _ _ _) (h8) ?_ | refine wd_call rfl rfl (f := 36) rfl (args2 _ _ _) (h9) ?_ | refine wd_call rfl (show _ = Op.call { callee := _, args := #[Operand.tmp 30, Operand.tmp 33], argTypes := _ } from rfl) (f := 21) rfl (args2 _ _ _) (h10) ?_ | refine wd_call rfl (show _ = Op.call { callee := _, args := #[Operand.tmp 37, Operand.tmp 38], argTypes := _ } from rfl) (f := 37) rfl (args2 _ _ _) (h11) ?_ | refine wd_call rfl (show _ = Op.call { callee := _, args := #[Operand.tmp 46, Operand.tmp 47], argTypes := _ } from rfl) (f := 37) rfl (args2 _ _ _) (h13) ?_ | refine wd_val rfl (ex_eqlCV rfl rfl rfl ?_ ?_ h12.out) ?_ | refine wd_val rfl (ex_eqBV rfl rfl rfl hq.out) ?_ | ((first | refine wd_val rfl (ex_move rfl rfl) ?_ | refine wd_val rfl (ex_assign rfl rfl) ?_); try simp only [Act.eval, Array.getD_eq_getD_getElem?, List.getElem?_toArray, List.getElem?_cons_succ, List.getElem?_cons_zero, Option.getD_some, Act.put, List.setIfInBounds_toArray, List.set_cons_zero, List.set_cons_succ]) | ((with_reducible show wpD _ _ _ _ _ (⟨_, Op.load 23 _, _, _, _, _⟩ :: _) _); first | refine wd_valH rfl (fun w hH => ex_loadC 0 rfl rfl hH rfl ?_) ?_ | refine wd_valH rfl (fun w hH => ex_loadC 1 rfl rfl hH rfl ?_) ?_ | refine wd_valH rfl (fun w hH => ex_loadC 2 rfl rfl hH rfl ?_) ?_ | refine wd_valH rfl (fun w hH => ex_loadC 3 rfl rfl hH rfl ?_) ?_ | refine wd_valH rfl (fun w hH => ex_loadC 4 rfl rfl hH rfl ?_) ?_ | refine wd_valH rfl (fun w hH => ex_loadC 5 rfl rfl hH rfl ?_) ?_) | ((with_reducible show wpD _ _ _ _ _ (⟨_, Op.load 31 _, _, _, _, _⟩ :: _) _); first | refine wd_valH rfl (fun w hH => ex_loadC 0 rfl rfl hH rfl ?_) ?_ | refine wd_valH rfl (fun w hH => ex_loadC 1 rfl rfl hH rfl ?_) ?_ | refine wd_valH rfl (fun w hH => ex_loadC 2 rfl rfl hH rfl ?_) ?_ | refine wd_valH rfl (fun w hH => ex_loadC 3 rfl rfl hH rfl ?_) ?_ | refine wd_valH rfl (fun w hH => ex_loadC 4 rfl rfl hH rfl ?_) ?_ | refine wd_valH rfl (fun w hH => ex_loadC 5 rfl rfl hH rfl ?_) ?_) | ((with_reducible show wpD _ _ _ _ _ (⟨_, Op.load 35 _, _, _, _, _⟩ :: _) _); first | refine wd_valH rfl (fun w hH => ex_loadC 0 rfl rfl hH rfl ?_) ?_ | refine wd_valH rfl (fun w hH => ex_loadC 1 rfl rfl hH rfl ?_) ?_ | refine wd_valH rfl (fun w hH => ex_loadC 2 rfl rfl hH rfl ?_) ?_ | refine wd_valH rfl (fun w hH => ex_loadC 3 rfl rfl hH rfl ?_) ?_ | refine wd_valH rfl (fun w hH => ex_loadC 4 rfl rfl hH rfl ?_) ?_ | refine wd_valH rfl (fun w hH => ex_loadC 5 rfl rfl hH rfl ?_) ?_) | refine wd_skip rfl ?_ | (refine wd_val (v := ?_) rfl ?_ ?_; rotate_left; focus (intro w; go_simp; try with_reducible rfl))) | ((with_reducible show Code.wp _ (Code.region 1 _ true) _ _ _); refine wp_draw 4 [(C .u64 [0, 0, 0, 0, 0], 31), (C .u64 [0, 0, 0, 0, 0], 31)] (by kernel_rfl) hH ?_) | ((with_reducible show Code.wp _ (Code.region 2 _ true) _ _ _); refine wp_draw 4 [(C .i64 (List.replicate 16 0), 35), (C .i64 (List.replicate 16 0), 35)] (by kernel_rfl) hH ?_) | ((with_reducible show Code.wp _ (Code.region 3 _ true) _ _ _); refine wp_draw 33 [] (by kernel_rfl) hH ?_) | ((refine wn_alloc rfl rfl z31 ?_; intro bn; try dsimp only)) | ((refine wn_alloc rfl rfl z35 ?_; intro bn; try dsimp only)) | ((with_reducible show wpD _ _ _ _ _ _ _); refine wd_done ?_; try dsimp only) | ((with_reducible show wpN _ _ _ _ _ _); refine wn_done ?_; try dsimp only)) <;> (first | ((with_reducible show wpList _ _ _ _ _ _); try simp only [Act.put, List.setIfInBounds_toArray, List.set_cons_zero, List.set_cons_succ]) | ((with_reducible show wpD _ _ _ _ _ _ _); try simp only [Act.put, List.setIfInBounds_toArray, List.set_cons_zero, List.set_cons_succ]) | (with_reducible show wpN _ _ _ _ _ _) | (with_reducible show Code.wp _ _ _ _ _) | (clear hH; intro w hH; (try simp only [List.nil_append, List.cons_append] at hH); (try simp only [Act.put, List.setIfInBounds_toArray, List.set_cons_zero, List.set_cons_succ] at hH ⊢)) | first | with_reducible assumption | omega | (simp only [List.length_set, List.length_replicate]; omega) | (simp; done) | (simp; omega))) | fail)
  go_ret
  exact ⟨rfl, hH.below⟩
set_option maxRecDepth 100000 in
set_option maxHeartbeats 2000000 in
theorem ring_walk {l m n a b c sab sba sabc sbc sabc2 dab e mab mba mabc mbc mabc2 ms mac sm one ma1 zer ma0 : List Nat} (hl : l.length = 32) (hm : m.length = 32) (hn : n.length = 32) (ha : a.length = 5) (hb : b.length = 5) (hc : c.length = 5) (hal : Ret 20 #[] (.bool true))
    (h0 : Ret 22 #[.agg (C .u8 l)] (.agg (C .u64 a))) (h1 : Ret 22 #[.agg (C .u8 m)] (.agg (C .u64 b))) (h2 : Ret 22 #[.agg (C .u8 n)] (.agg (C .u64 c))) (h3 : Ret 33 #[.agg (C .u64 a), .agg (C .u64 b)] (.agg (C .u64 sab))) (h4 : Ret 33 #[.agg (C .u64 b), .agg (C .u64 a)] (.agg (C .u64 sba))) (h5 : Ret 37 #[.agg (C .u64 sab), .agg (C .u64 sba)] (.bool true)) (h6 : Ret 33 #[.agg (C .u64 sab), .agg (C .u64 c)] (.agg (C .u64 sabc))) (h7 : Ret 33 #[.agg (C .u64 b), .agg (C .u64 c)] (.agg (C .u64 sbc))) (h8 : Ret 33 #[.agg (C .u64 a), .agg (C .u64 sbc)] (.agg (C .u64 sabc2))) (h9 : Ret 37 #[.agg (C .u64 sabc), .agg (C .u64 sabc2)] (.bool true)) (h10 : Ret 35 #[.agg (C .u64 a), .agg (C .u64 b)] (.agg (C .u64 dab))) (h11 : Ret 33 #[.agg (C .u64 dab), .agg (C .u64 b)] (.agg (C .u64 e))) (h12 : Ret 37 #[.agg (C .u64 e), .agg (C .u64 a)] (.bool true)) (h13 : Ret 23 #[.agg (C .u64 a), .agg (C .u64 b)] (.agg (C .u64 mab))) (h14 : Ret 23 #[.agg (C .u64 b), .agg (C .u64 a)] (.agg (C .u64 mba))) (h15 : Ret 37 #[.agg (C .u64 mab), .agg (C .u64 mba)] (.bool true)) (h16 : Ret 23 #[.agg (C .u64 mab), .agg (C .u64 c)] (.agg (C .u64 mabc))) (h17 : Ret 23 #[.agg (C .u64 b), .agg (C .u64 c)] (.agg (C .u64 mbc))) (h18 : Ret 23 #[.agg (C .u64 a), .agg (C .u64 mbc)] (.agg (C .u64 mabc2))) (h19 : Ret 37 #[.agg (C .u64 mabc), .agg (C .u64 mabc2)] (.bool true)) (h20 : Ret 23 #[.agg (C .u64 sab), .agg (C .u64 c)] (.agg (C .u64 ms))) (h21 : Ret 23 #[.agg (C .u64 a), .agg (C .u64 c)] (.agg (C .u64 mac))) (h22 : Ret 33 #[.agg (C .u64 mac), .agg (C .u64 mbc)] (.agg (C .u64 sm))) (h23 : Ret 37 #[.agg (C .u64 ms), .agg (C .u64 sm)] (.bool true)) (h24 : Ret 23 #[.agg (C .u64 a), .agg (C .u64 one)] (.agg (C .u64 ma1))) (h25 : Ret 37 #[.agg (C .u64 ma1), .agg (C .u64 a)] (.bool true)) (h26 : Ret 23 #[.agg (C .u64 a), .agg (C .u64 zer)] (.agg (C .u64 ma0))) (h27 : Ret 37 #[.agg (C .u64 ma0), .agg (C .u64 [0, 0, 0, 0, 0])] (.bool true)) (h28 : Ret 26 #[.int .i64 1] (.agg (C .u64 one))) (h29 : Ret 26 #[.int .i64 0] (.agg (C .u64 zer))) :
    Ret 9 #[.agg (C .u8 l), .agg (C .u8 m), .agg (C .u8 n)] (.bool true) := by
  refine ⟨fun w => ?_⟩
  obtain ⟨W, hW⟩ : ∃ W, W = w := ⟨_, rfl⟩
  have hH := Has.nil W
  rw [← hW]
  clear hW
  go_enter Try.func9, Try.ntmps9
  apply wp_seq_k; intro K1 hK1
  apply wp_region_lit
  refine wl_boxA rfl rfl rfl hH ?_
  clear hH; intro b1 w hH
  simp only [Act.put, List.setIfInBounds_toArray, List.set_cons_zero, List.set_cons_succ]
  refine wl_boxA rfl rfl rfl hH ?_
  clear hH; intro b2 w hH
  simp only [Act.put, List.setIfInBounds_toArray, List.set_cons_zero, List.set_cons_succ]
  refine wl_boxA rfl rfl rfl hH ?_
  clear hH; intro b3 w hH
  simp only [Act.put, List.setIfInBounds_toArray, List.set_cons_zero, List.set_cons_succ]
  go_wp2_with (first | ((first | ((with_reducible show wpList _ _ _ (_ :: _) _ _); first | refine wl_storerowC 0 rfl rfl rfl rfl hH rfl ?_ ?_ ?_ | refine wl_storerowC 1 rfl rfl rfl rfl hH rfl ?_ ?_ ?_ | refine wl_storerowC 2 rfl rfl rfl rfl hH rfl ?_ ?_ ?_ | refine wl_storerowC 3 rfl rfl rfl rfl hH rfl ?_ ?_ ?_ | refine wl_storerowC 4 rfl rfl rfl rfl hH rfl ?_ ?_ ?_ | refine wl_storerowC 5 rfl rfl rfl rfl hH rfl ?_ ?_ ?_ | ((first | refine wl_val rfl (ex_assign rfl rfl) ?_); try simp only [Act.eval, Array.getD_eq_getD_getElem?, List.getElem?_toArray, List.getElem?_cons_succ, List.getElem?_cons_zero, Option.getD_some, Act.put, List.setIfInBounds_toArray, List.set_cons_zero, List.set_cons_succ])) | ((with_reducible show wpD _ _ _ _ _ (_ :: _) _); first | refine wd_call rfl rfl (f := 20) rfl (args0 _) (hal) ?_ | refine wd_call rfl rfl (f := 22) rfl (args1 _ _) (h0) ?_ | refine wd_call rfl rfl (f := 22) rfl (args1 _ _) (h1) ?_ | refine wd_call rfl rfl (f := 22) rfl (args1 _ _) (h2) ?_ | refine wd_call rfl rfl (f := 33) rfl (args2 _ _ _) (h3) ?_ | refine wd_call rfl rfl (f := 33) rfl (args2 _ _ _) (h4) ?_ | refine wd_call rfl rfl (f := 37) rfl (args2 _ _ _) (h5) ?_ | refine wd_call rfl rfl (f := 33) rfl (args2 _ _ _) (h6) ?_ | refine wd_call rfl rfl (f := 33) rfl (args2 _ _ _) (h7) ?_ | refine wd_call rfl rfl (f := 33) rfl (args2 _ _ _) (h8) ?_ | refine wd_call rfl rfl (f := 37) rfl (args2 _ _ _) (h9) ?_ | refine wd_call rfl rfl (f := 35) rfl (args2 _ _ _) (h10) ?_ | refine wd_call rfl rfl (f := 33) rfl (args2 _ _ _) (h11) ?_ | refine wd_call rfl rfl (f := 37) rfl (args2 _ _ _) (h12) ?_ | refine wd_call rfl rfl (f := 23) rfl (args2 _ _ _) (h13) ?_ | refine wd_call rfl rfl (f := 23) rfl (args2 _ _ _) (h14) ?_ | refine wd_call rfl rfl (f := 37) rfl (args2 _ _ _) (h15) ?_ | refine wd_call rfl rfl (f := 23) rfl (args2 _ _ _) (h16) ?_ | refine wd_call rfl rfl (f := 23) rfl (args2 _ _ _) (h17) ?_ | refine wd_call rfl rfl (f := 23) rfl (args2 _ _ _) (h18) ?_ | refine wd_call rfl rfl (f := 37) rfl (args2 _ _ _) (h19) ?_ | refine wd_call rfl rfl (f := 23) rfl (args2 _ _ _) (h20) ?_ | refine wd_call rfl rfl (f := 23) rfl (args2 _ _ _) (h21) ?_ | refine wd_call rfl rfl (f := 33) rfl (args2 _ _ _) (h22) ?_ | refine wd_call rfl rfl (f := 37) rfl (args2 _ _ _) (h23) ?_ | refine wd_call rfl rfl (f := 23) rfl (args2 _ _ _) (h24) ?_ | refine wd_call rfl rfl (f := 37) rfl (args2 _ _ _) (h25) ?_ | refine wd_call rfl rfl (f := 23) rfl (args2 _ _ _) (h26) ?_ | refine wd_call rfl rfl (f := 37) rfl (args2 _ _ _) (h27) ?_ | refine wd_call rfl rfl (f := 26) rfl (args1 _ _) (h28) ?_ | refine wd_call rfl rfl (f := 26) rfl (args1 _ _) (h29) ?_ | refine wd_val rfl (ex_not rfl rfl) ?_ | refine wd_val rfl (ex_build rfl (b31_0)) ?_ | refine wd_val rfl (ex_build rfl (b31_1 ?_)) ?_ | ((first | refine wd_val rfl (ex_move rfl rfl) ?_ | refine wd_val rfl (ex_assign rfl rfl) ?_); try simp only [Act.eval, Array.getD_eq_getD_getElem?, List.getElem?_toArray, List.getElem?_cons_succ, List.getElem?_cons_zero, Option.getD_some, Act.put, List.setIfInBounds_toArray, List.set_cons_zero, List.set_cons_succ]) | ((with_reducible show wpD _ _ _ _ _ (⟨_, Op.load 23 _, _, _, _, _⟩ :: _) _); first | refine wd_valH rfl (fun w hH => ex_loadC 0 rfl rfl hH rfl ?_) ?_ | refine wd_valH rfl (fun w hH => ex_loadC 1 rfl rfl hH rfl ?_) ?_ | refine wd_valH rfl (fun w hH => ex_loadC 2 rfl rfl hH rfl ?_) ?_ | refine wd_valH rfl (fun w hH => ex_loadC 3 rfl rfl hH rfl ?_) ?_ | refine wd_valH rfl (fun w hH => ex_loadC 4 rfl rfl hH rfl ?_) ?_ | refine wd_valH rfl (fun w hH => ex_loadC 5 rfl rfl hH rfl ?_) ?_) | ((with_reducible show wpD _ _ _ _ _ (⟨_, Op.load 31 _, _, _, _, _⟩ :: _) _); first | refine wd_valH rfl (fun w hH => ex_loadC 0 rfl rfl hH rfl ?_) ?_ | refine wd_valH rfl (fun w hH => ex_loadC 1 rfl rfl hH rfl ?_) ?_ | refine wd_valH rfl (fun w hH => ex_loadC 2 rfl rfl hH rfl ?_) ?_ | refine wd_valH rfl (fun w hH => ex_loadC 3 rfl rfl hH rfl ?_) ?_ | refine wd_valH rfl (fun w hH => ex_loadC 4 rfl rfl hH rfl ?_) ?_ | refine wd_valH rfl (fun w hH => ex_loadC 5 rfl rfl hH rfl ?_) ?_) | refine wd_skip rfl ?_ | (refine wd_val (v := ?_) rfl ?_ ?_; rotate_left; focus (intro w; go_simp; try with_reducible rfl))) | ((with_reducible show Code.wp _ (Code.region 1 _ true) _ _ _); refine wp_draw 6 [(C .u64 [0, 0, 0, 0, 0], 31), (C .u64 [0, 0, 0, 0, 0], 31), (C .u64 [0, 0, 0, 0, 0], 31)] (by kernel_rfl) hH ?_) | ((with_reducible show Code.wp _ (Code.region 2 _ true) _ _ _); refine wp_draw 45 [] (by kernel_rfl) hH ?_) | ((with_reducible show Code.wp _ (Code.region 4 _ true) _ _ _); refine wp_draw 40 [] (by kernel_rfl) hH ?_) | ((refine wn_alloc rfl rfl z31 ?_; intro bn; try dsimp only)) | ((with_reducible show wpD _ _ _ _ _ _ _); refine wd_done ?_; try dsimp only) | ((with_reducible show wpN _ _ _ _ _ _); refine wn_done ?_; try dsimp only)) <;> (first | ((with_reducible show wpList _ _ _ _ _ _); try simp only [Act.put, List.setIfInBounds_toArray, List.set_cons_zero, List.set_cons_succ]) | ((with_reducible show wpD _ _ _ _ _ _ _); try simp only [Act.put, List.setIfInBounds_toArray, List.set_cons_zero, List.set_cons_succ]) | (with_reducible show wpN _ _ _ _ _ _) | (with_reducible show Code.wp _ _ _ _ _) | (clear hH; intro w hH; (try simp only [List.nil_append, List.cons_append] at hH); (try simp only [Act.put, List.setIfInBounds_toArray, List.set_cons_zero, List.set_cons_succ] at hH ⊢)) | first | with_reducible assumption | omega | (simp only [List.length_set, List.length_replicate]; omega) | (simp; done) | (simp; omega))) | fail)
  go_ret
  exact ⟨rfl, hH.below⟩
theorem law_ring {l m n : List Nat} (hl : l.length = 32) (hlb : ∀ i, l.getD i 0 < 256) (hm : m.length = 32) (hmb : ∀ i, m.getD i 0 < 256) (hn : n.length = 32) (hnb : ∀ i, n.getD i 0 < 256) :
    Ret 9 #[.agg (C .u8 l), .agg (C .u8 m), .agg (C .u8 n)] (.bool true) := by
  obtain ⟨a, la, ra⟩ := from_ex hl hlb
  obtain ⟨b, lb, rb⟩ := from_ex hm hmb
  obtain ⟨c, lc, rc⟩ := from_ex hn hnb
  have xa := la.x_lt
  have xb := lb.x_lt
  obtain ⟨sab, l1, r1⟩ := add_ex la lb
  obtain ⟨sba, l2, r2⟩ := add_ex lb la
  obtain ⟨sabc, l3, r3⟩ := add_ex l1 lc
  obtain ⟨sbc, l4, r4⟩ := add_ex lb lc
  obtain ⟨sabc2, l5, r5⟩ := add_ex la l4
  obtain ⟨dab, l6, r6⟩ := sub_ex la lb
  obtain ⟨e, l7, r7⟩ := add_ex l6 lb
  obtain ⟨mab, l8, r8⟩ := mul_ex la lb
  obtain ⟨mba, l9, r9⟩ := mul_ex lb la
  obtain ⟨mabc, l10, r10⟩ := mul_ex l8 lc
  obtain ⟨mbc, l11, r11⟩ := mul_ex lb lc
  obtain ⟨mabc2, l12, r12⟩ := mul_ex la l11
  obtain ⟨ms, l13, r13⟩ := mul_ex l1 lc
  obtain ⟨mac, l14, r14⟩ := mul_ex la lc
  obtain ⟨sm, l15, r15⟩ := add_ex l14 l11
  obtain ⟨one, l16, r16⟩ := small_ex (m := 1) (by decide)
  rw [one_mod] at l16
  obtain ⟨zer, l17, r17⟩ := small_ex (m := 0) (by decide)
  rw [zero_mod'] at l17
  obtain ⟨ma1, l18, r18⟩ := mul_ex la l16
  obtain ⟨ma0, l19, r19⟩ := mul_ex la l17
  exact ring_walk hl hm hn la.len lb.len lc.len alive5_any ra rb rc r1 r2 (equal_true l1 l2 (addN_comm _ _)) r3 r4 r5 (equal_true l3 l5 (addN_assoc _ _ _)) r6 r7 (equal_true l7 la (subN_addN xa xb))
    r8 r9 (equal_true l8 l9 (mulN_comm _ _)) r10 r11 r12 (equal_true l10 l12 (mulN_assoc _ _ _)) r13 r14 r15 (equal_true l13 l15 (mulN_dist _ _ _)) r18 (equal_true l18 la (mulN_one xa)) r19 (equal_true l19 zero_lim (mulN_zero _)) r16 r17
theorem law_sums {l m : List Nat} (hl : l.length = 32) (hlb : ∀ i, l.getD i 0 < 256) (hm : m.length = 32) (hmb : ∀ i, m.getD i 0 < 256) :
    Ret 8 #[.agg (C .u8 l), .agg (C .u8 m)] (.bool true) := by
  obtain ⟨a, la, ra⟩ := from_ex hl hlb
  obtain ⟨b, lb, rb⟩ := from_ex hm hmb
  have xa := la.x_lt
  have xb := lb.x_lt
  obtain ⟨s, l1, r1⟩ := add_ex la lb
  obtain ⟨t, l2, r2⟩ := sub_ex la lb
  have hq : decide (D16 (keyN l) = D16 (keyN m)) = decide (keyN l = keyN m) := decide_eq_decide.2 ⟨fun e => D16_inj (by omega) (by omega) e, fun e => by rw [e]⟩
  exact sums_walk hl hm la.len lb.len (D16_len _) (D16_len _) alive5_any ra rb (rfrom_ex hl hlb) (rfrom_ex hm hmb) r1 (radd_ex xa xb) (is_true l1) r2 (rsub_ex xa xb) (is_true l2) (equal_lim la lb) ⟨hq⟩ (equal_true la la rfl)
end Go.Proofs.Ytmbbdblmengdhaa
