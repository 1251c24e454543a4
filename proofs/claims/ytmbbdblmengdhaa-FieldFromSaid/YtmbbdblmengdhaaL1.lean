/- Walks of the laws: FieldProducts, FieldFrom. -/
import Derived.Test.YtmbbdblmengdhaaL0
import Derived.Test.YtmbbdblmengdhaaV10
namespace Go.Proofs.Ytmbbdblmengdhaa
open Go.RowKit

set_option maxRecDepth 100000 in
set_option maxHeartbeats 1000000 in
theorem products_walk {l m a b c d e f : List Nat} (hl : l.length = 32) (hm : m.length = 32) (h0 : Ret 20 #[] (.bool true))
    (h1 : Ret 22 #[.agg (C .u8 l)] (.agg (C .u64 a))) (h2 : Ret 22 #[.agg (C .u8 m)] (.agg (C .u64 b))) (h3 : Ret 23 #[.agg (C .u64 a), .agg (C .u64 b)] (.agg (C .u64 c)))
    (h4 : Ret 25 #[.agg (C .u8 l)] (.agg (C .i64 d))) (h5 : Ret 25 #[.agg (C .u8 m)] (.agg (C .i64 e))) (h6 : Ret 24 #[.agg (C .i64 d), .agg (C .i64 e)] (.agg (C .i64 f)))
    (h7 : Ret 21 #[.agg (C .u64 c), .agg (C .i64 f)] (.bool true)) : Ret 4 #[.agg (C .u8 l), .agg (C .u8 m)] (.bool true) := by
  refine ⟨fun w => ?_⟩
  obtain ⟨W, hW⟩ : ∃ W, W = w := ⟨_, rfl⟩
  have hH := Has.nil W
  rw [← hW]
  clear hW
  go_enter Try.func4, Try.ntmps4
  apply wp_seq_k; intro K1 hK1
  apply wp_region_lit
  refine wl_boxA rfl rfl rfl hH ?_
  clear hH; intro b1 w hH
  simp only [Act.put, List.setIfInBounds_toArray, List.set_cons_zero, List.set_cons_succ]
  refine wl_boxA rfl rfl rfl hH ?_
  clear hH; intro b2 w hH
  simp only [Act.put, List.setIfInBounds_toArray, List.set_cons_zero, List.set_cons_succ]
  go_wp2_with (first | ((first | ((with_reducible show wpList _ _ _ (_ :: _) _ _); first | ((first | refine wl_val rfl (ex_assign rfl rfl) ?_); try simp only [Act.eval, Array.getD_eq_getD_getElem?, List.getElem?_toArray, List.getElem?_cons_succ, List.getElem?_cons_zero, Option.getD_some, Act.put, List.setIfInBounds_toArray, List.set_cons_zero, List.set_cons_succ])) | ((with_reducible show wpD _ _ _ _ _ (_ :: _) _); first | refine wd_call rfl rfl (f := 20) rfl (args0 _) (h0) ?_ | refine wd_call rfl (show _ = Op.call { callee := _, args := #[Operand.tmp 7], argTypes := _ } from rfl) (f := 22) rfl (args1 _ _) (h1) ?_ | refine wd_call rfl (show _ = Op.call { callee := _, args := #[Operand.tmp 9], argTypes := _ } from rfl) (f := 22) rfl (args1 _ _) (h2) ?_ | refine wd_call rfl rfl (f := 23) rfl (args2 _ _ _) (h3) ?_ | refine wd_call rfl (show _ = Op.call { callee := _, args := #[Operand.tmp 12], argTypes := _ } from rfl) (f := 25) rfl (args1 _ _) (h4) ?_ | refine wd_call rfl (show _ = Op.call { callee := _, args := #[Operand.tmp 14], argTypes := _ } from rfl) (f := 25) rfl (args1 _ _) (h5) ?_ | refine wd_call rfl rfl (f := 24) rfl (args2 _ _ _) (h6) ?_ | refine wd_call rfl rfl (f := 21) rfl (args2 _ _ _) (h7) ?_ | ((first | refine wd_val rfl (ex_move rfl rfl) ?_ | refine wd_val rfl (ex_assign rfl rfl) ?_); try simp only [Act.eval, Array.getD_eq_getD_getElem?, List.getElem?_toArray, List.getElem?_cons_succ, List.getElem?_cons_zero, Option.getD_some, Act.put, List.setIfInBounds_toArray, List.set_cons_zero, List.set_cons_succ]) | refine wd_valH rfl (fun w hH => ex_loadC 0 rfl rfl hH rfl ?_) ?_ | refine wd_valH rfl (fun w hH => ex_loadC 1 rfl rfl hH rfl ?_) ?_ | refine wd_skip rfl ?_ | (refine wd_val (v := ?_) rfl ?_ ?_; rotate_left; focus (intro w; go_simp; try with_reducible rfl))) | ((with_reducible show Code.wp _ (Code.region 1 _ true) _ _ _); refine wp_draw 14 [] (by kernel_rfl) hH ?_) | ((with_reducible show wpD _ _ _ _ _ _ _); refine wd_done ?_; try dsimp only) | ((with_reducible show wpN _ _ _ _ _ _); refine wn_done ?_; try dsimp only)) <;> (first | ((with_reducible show wpList _ _ _ _ _ _); try simp only [Act.put, List.setIfInBounds_toArray, List.set_cons_zero, List.set_cons_succ]) | ((with_reducible show wpD _ _ _ _ _ _ _); try simp only [Act.put, List.setIfInBounds_toArray, List.set_cons_zero, List.set_cons_succ]) | (with_reducible show wpN _ _ _ _ _ _) | (with_reducible show Code.wp _ _ _ _ _) | (clear hH; intro w hH; (try simp only [List.nil_append, List.cons_append] at hH); (try simp only [Act.put, List.setIfInBounds_toArray, List.set_cons_zero, List.set_cons_succ] at hH ⊢)) | first | with_reducible assumption | omega | (simp only [List.length_set, List.length_replicate]; omega) | (simp; done) | (simp; omega))) | fail)
  go_ret
  exact ⟨rfl, hH.below⟩
theorem law_products {l m : List Nat} (hl : l.length = 32) (hb : ∀ i, l.getD i 0 < 256) (hl2 : m.length = 32) (hb2 : ∀ i, m.getD i 0 < 256) : Ret 4 #[.agg (C .u8 l), .agg (C .u8 m)] (.bool true) := by
  have la := from_lim hl hb
  have lb := from_lim hl2 hb2
  have hx := la.x_lt
  have hy := lb.x_lt
  exact products_walk hl hl2 alive5_any (from_any hl hb) (from_any hl2 hb2) (mul_ret la lb) (rfrom_any hl hb) (rfrom_any hl2 hb2) (rmul_any (by omega) (by omega)) (is_true (mul_lim la lb))

set_option maxRecDepth 100000 in
set_option maxHeartbeats 1000000 in
theorem from_walk {l a d s r : List Nat} {n : Int} {v : Nat} (hl : l.length = 32) (hd : d.length = 16) (h0 : Ret 20 #[] (.bool true))
    (h1 : Ret 22 #[.agg (C .u8 l)] (.agg (C .u64 a))) (h2 : Ret 25 #[.agg (C .u8 l)] (.agg (C .i64 d))) (h3 : Ret 21 #[.agg (C .u64 a), .agg (C .i64 d)] (.bool true))
    (h4 : Ret 26 #[.int .i64 n] (.agg (C .u64 s))) (h5 : Ret 27 #[.int .i64 n] (.agg (C .i64 r))) (h6 : Ret 21 #[.agg (C .u64 s), .agg (C .i64 r)] (.bool true))
    (h7 : Ret 28 #[.agg (C .u64 a)] (.bool (decide (v % 2 = 1)))) (h8 : Veil (d.getD 0 0 = v)) (hv : v < 65536) : Ret 5 #[.agg (C .u8 l), .int .i64 n] (.bool true) := by
  refine ⟨fun w => ?_⟩
  obtain ⟨W, hW⟩ : ∃ W, W = w := ⟨_, rfl⟩
  have hH := Has.nil W
  rw [← hW]
  clear hW
  go_enter Try.func5, Try.ntmps5
  apply wp_seq_k; intro K1 hK1
  apply wp_region_lit
  refine wl_boxA rfl rfl rfl hH ?_
  clear hH; intro b1 w hH
  simp only [Act.put, List.setIfInBounds_toArray, List.set_cons_zero, List.set_cons_succ]
  go_wp2_with (first | ((first | ((with_reducible show wpList _ _ _ (_ :: _) _ _); first | ((first | refine wl_val rfl (ex_assign rfl rfl) ?_); try simp only [Act.eval, Array.getD_eq_getD_getElem?, List.getElem?_toArray, List.getElem?_cons_succ, List.getElem?_cons_zero, Option.getD_some, Act.put, List.setIfInBounds_toArray, List.set_cons_zero, List.set_cons_succ])) | ((with_reducible show wpD _ _ _ _ _ (_ :: _) _); first | refine wd_call rfl rfl (f := 20) rfl (args0 _) (h0) ?_ | refine wd_call rfl rfl (f := 22) rfl (args1 _ _) (h1) ?_ | refine wd_call rfl rfl (f := 25) rfl (args1 _ _) (h2) ?_ | refine wd_call rfl (show _ = Op.call { callee := _, args := #[Operand.tmp 8, Operand.tmp 10], argTypes := _ } from rfl) (f := 21) rfl (args2 _ _ _) (h3) ?_ | refine wd_call rfl rfl (f := 26) rfl (args1 _ _) (h4) ?_ | refine wd_call rfl rfl (f := 27) rfl (args1 _ _) (h5) ?_ | refine wd_call rfl (show _ = Op.call { callee := _, args := #[Operand.tmp 15, Operand.tmp 17], argTypes := _ } from rfl) (f := 21) rfl (args2 _ _ _) (h6) ?_ | refine wd_call rfl rfl (f := 28) rfl (args1 _ _) (h7) ?_ | refine wd_val rfl (ex_indexV rfl rfl rfl ?_ ?_ h8.out) ?_ | refine wd_val rfl (ex_rem_i64 rfl rfl rfl ?_) ?_ | refine wd_val rfl (ex_eqN rfl rfl rfl) ?_ | refine wd_val rfl (ex_eqB rfl rfl rfl) ?_ | refine wd_val rfl (ex_index rfl rfl rfl ?_ ?_) ?_ | ((first | refine wd_val rfl (ex_move rfl rfl) ?_ | refine wd_val rfl (ex_assign rfl rfl) ?_); try simp only [Act.eval, Array.getD_eq_getD_getElem?, List.getElem?_toArray, List.getElem?_cons_succ, List.getElem?_cons_zero, Option.getD_some, Act.put, List.setIfInBounds_toArray, List.set_cons_zero, List.set_cons_succ]) | refine wd_valH rfl (fun w hH => ex_loadC 0 rfl rfl hH rfl ?_) ?_ | refine wd_skip rfl ?_ | (refine wd_val (v := ?_) rfl ?_ ?_; rotate_left; focus (intro w; go_simp; try with_reducible rfl))) | ((with_reducible show Code.wp _ (Code.region 1 _ true) _ _ _); refine wp_draw 26 [] (by kernel_rfl) hH ?_) | ((with_reducible show wpD _ _ _ _ _ _ _); refine wd_done ?_; try dsimp only) | ((with_reducible show wpN _ _ _ _ _ _); refine wn_done ?_; try dsimp only)) <;> (first | ((with_reducible show wpList _ _ _ _ _ _); try simp only [Act.put, List.setIfInBounds_toArray, List.set_cons_zero, List.set_cons_succ]) | ((with_reducible show wpD _ _ _ _ _ _ _); try simp only [Act.put, List.setIfInBounds_toArray, List.set_cons_zero, List.set_cons_succ]) | (with_reducible show wpN _ _ _ _ _ _) | (with_reducible show Code.wp _ _ _ _ _) | (clear hH; intro w hH; (try simp only [List.nil_append, List.cons_append] at hH); (try simp only [Act.put, List.setIfInBounds_toArray, List.set_cons_zero, List.set_cons_succ] at hH ⊢)) | first | with_reducible assumption | omega | (simp only [List.length_set, List.length_replicate]; omega) | (simp; done) | (simp; omega))) | fail)
  go_ret
  exact ⟨by simp, hH.below⟩
theorem law_from {l : List Nat} (hl : l.length = 32) (hb : ∀ i, l.getD i 0 < 256) {n : Int} (hn : (Lit.int .i64 n).wf = true) : Ret 5 #[.agg (C .u8 l), .int .i64 n] (.bool true) := by
  obtain ⟨s, hs, h4, h5⟩ := small_int hn
  have la := from_lim hl hb
  have hd : (D16 (valN 256 l % 2 ^ 255 % pP)).getD 0 0 = valN 256 l % 2 ^ 255 % pP % 65536 := by
    rw [D16, digs_getD _ _ _ _ (by decide), Nat.pow_zero, Nat.div_one]
  have ho := odd_lim la
  rw [show valN 256 l % 2 ^ 255 % pP % 2 = valN 256 l % 2 ^ 255 % pP % 65536 % 2 by omega] at ho
  exact from_walk hl (D16_len _) alive5_any (from_any hl hb) (rfrom_any hl hb) (is_true la) h4 h5 (is_true hs) ho ⟨hd⟩ (Nat.mod_lt _ (by decide))
end Go.Proofs.Ytmbbdblmengdhaa
