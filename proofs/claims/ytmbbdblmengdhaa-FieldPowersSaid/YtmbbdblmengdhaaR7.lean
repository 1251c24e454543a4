/- Walks of the reference: Sub, Small, Inv. -/
import Derived.Test.YtmbbdblmengdhaaR5
import Derived.Test.YtmbbdblmengdhaaV5
set_option linter.unusedSimpArgs false
set_option linter.unusedVariables false
namespace Go.Proofs.Ytmbbdblmengdhaa
open Go.RowKit

set_option maxRecDepth 100000 in
set_option maxHeartbeats 1000000 in
theorem rsub_walk {a b c Q : List Nat} (ha : a.length = 16) (hb : b.length = 16) (hc : c.length = 16) (hQ : Q.length = 16) (hm : Ret 57 #[.agg (C .i64 primeL), .agg (C .i64 b)] (.agg (C .i64 c)))
    (hs : Ret 34 #[.agg (C .i64 a), .agg (C .i64 c)] (.agg (C .i64 Q))) :
    Ret 36 #[.agg (C .i64 a), .agg (C .i64 b)] (.agg (C .i64 Q)) := by
  refine ⟨fun w => ?_⟩
  obtain ⟨W, hW⟩ : ∃ W, W = w := ⟨_, rfl⟩
  have hH := Has.nil W
  rw [← hW]
  clear hW
  go_enter Try.func36, Try.ntmps36
  apply wp_seq_k; intro K1 hK1
  apply wp_region_lit
  refine wl_boxA rfl rfl rfl hH ?_
  clear hH; intro b1 w hH
  simp only [Act.put, List.setIfInBounds_toArray, List.set_cons_zero, List.set_cons_succ]
  refine wl_boxA rfl rfl rfl hH ?_
  clear hH; intro b2 w hH
  simp only [Act.put, List.setIfInBounds_toArray, List.set_cons_zero, List.set_cons_succ]
  refine wl_allocA rfl rfl z35 hH ?_
  clear hH; intro b3 w hH
  simp only [Act.put, List.setIfInBounds_toArray, List.set_cons_zero, List.set_cons_succ]
  go_wp2_with (first | ((first | ((with_reducible show wpList _ _ _ (_ :: _) _ _); first | refine wl_storerowC 0 rfl rfl rfl rfl hH rfl ?_ ?_ ?_ | refine wl_storerowC 1 rfl rfl rfl rfl hH rfl ?_ ?_ ?_ | refine wl_storerowC 2 rfl rfl rfl rfl hH rfl ?_ ?_ ?_) | ((with_reducible show wpD _ _ _ _ _ (_ :: _) _); first | refine wd_call rfl rfl (f := 58) rfl (args0 _) (prime_any) ?_ | refine wd_call rfl rfl (f := 57) rfl (args2 _ _ _) (hm) ?_ | refine wd_call rfl rfl (f := 34) rfl (args2 _ _ _) (hs) ?_ | refine wd_valH rfl (fun w hH => ex_loadC 0 rfl rfl hH rfl ?_) ?_ | refine wd_valH rfl (fun w hH => ex_loadC 1 rfl rfl hH rfl ?_) ?_ | refine wd_valH rfl (fun w hH => ex_loadC 2 rfl rfl hH rfl ?_) ?_ | refine wd_skip rfl ?_ | (refine wd_val (v := ?_) rfl ?_ ?_; rotate_left; focus (intro w; go_simp; try with_reducible rfl))) | ((with_reducible show Code.wp _ (Code.region 1 _ true) _ _ _); refine wp_draw 5 [] (by kernel_rfl) hH ?_) | ((with_reducible show wpD _ _ _ _ _ _ _); refine wd_done ?_; try dsimp only) | ((with_reducible show wpN _ _ _ _ _ _); refine wn_done ?_; try dsimp only)) <;> (first | ((with_reducible show wpList _ _ _ _ _ _); try simp only [Act.put, List.setIfInBounds_toArray, List.set_cons_zero, List.set_cons_succ]) | ((with_reducible show wpD _ _ _ _ _ _ _); try simp only [Act.put, List.setIfInBounds_toArray, List.set_cons_zero, List.set_cons_succ]) | (with_reducible show wpN _ _ _ _ _ _) | (with_reducible show Code.wp _ _ _ _ _) | (clear hH; intro w hH; (try simp only [List.nil_append, List.cons_append] at hH); (try simp only [Act.put, List.setIfInBounds_toArray, List.set_cons_zero, List.set_cons_succ] at hH ⊢)) | first | with_reducible assumption | omega | (simp only [List.length_set, List.length_replicate]; omega) | (simp; done) | (simp; omega))) | fail)
  refine ret_cell 0 rfl rfl hH rfl ?_ rfl ⟨rfl, hH.below⟩
  rw [C_size]; omega

theorem rsub_any {m n : Nat} (hm : m < 2 * pP) (hn : n ≤ pP) : Ret 36 #[.agg (C .i64 (D16 m)), .agg (C .i64 (D16 n))] (.agg (C .i64 (D16 ((m + (pP - n)) % pP)))) := by
  have h1 := minus_any (a := primeL) (b := D16 n) rfl (D16_len _) primeL_dig (D16_dig _)
  rw [prime_minus hn] at h1
  exact rsub_walk (D16_len _) (D16_len _) (D16_len _) (D16_len _) h1 (radd_any hm (by rw [pP] at hn ⊢; omega))

def smR (n : Nat) : Nat → List Nat
  | 0 => List.replicate 32 0
  | k + 1 => (smR n k).set k (n / 65536 ^ k % 65536)
@[simp] theorem smR_len (n k : Nat) : (smR n k).length = 32 := by
  induction k with
  | zero => rfl
  | succ k ih => simp [smR, ih]

set_option maxRecDepth 100000 in
set_option maxHeartbeats 1000000 in
theorem rsmall_walk {m : Nat} {Q : List Nat} (hm : m < 9223372036854775808) (hQ : Q.length = 16) (hs : Ret 55 #[.agg (C .i64 (smR m 4))] (.agg (C .i64 Q))) :
    Ret 27 #[.int .i64 (m : Int)] (.agg (C .i64 Q)) := by
  refine ⟨fun w => ?_⟩
  obtain ⟨W, hW⟩ : ∃ W, W = w := ⟨_, rfl⟩
  have hH := Has.nil W
  rw [← hW]
  clear hW
  go_enter Try.func27, Try.ntmps27
  apply wp_seq_k; intro K1 hK1
  apply wp_region_lit
  refine wl_allocA rfl rfl z35 hH ?_
  clear hH; intro b1 w hH
  simp only [Act.put, List.setIfInBounds_toArray, List.set_cons_zero, List.set_cons_succ]
  go_wp2_with (first | ((first | ((with_reducible show wpList _ _ _ (_ :: _) _ _); first | (refine wl_allocA rfl rfl z78 hH ?_; clear hH; intro b2 w hH) | refine wl_loadC 0 rfl rfl rfl hH rfl ?_ ?_ | ((with_reducible show wpList _ _ _ (⟨_, Op.store 3 _ _, _, _, _, _⟩ :: _) _ _); first | refine wl_storeC 0 rfl rfl rfl rfl hH rfl ?_ ?_) | ((with_reducible show wpList _ _ _ (⟨_, Op.store 35 _ _, _, _, _, _⟩ :: _) _ _); first | refine wl_storerowC 0 rfl rfl rfl rfl hH rfl ?_ ?_ ?_) | refine wl_val rfl (ex_build rfl (b35_0)) ?_ | refine wl_val rfl (ex_build rfl (b35_1 _)) ?_ | refine wl_val rfl (ex_build rfl (b35_16 _ _ _ _ _ _ _ _ _ _ _ _ _ _ _ _)) ?_ | refine wl_val rfl (ex_ixaddr1 rfl rfl rfl ?_) ?_ | ((first | refine wl_val rfl (ex_move rfl rfl) ?_ | refine wl_val rfl (ex_assign rfl rfl) ?_); try simp only [Act.eval, Array.getD_eq_getD_getElem?, List.getElem?_toArray, List.getElem?_cons_succ, List.getElem?_cons_zero, Option.getD_some, Act.put, List.setIfInBounds_toArray, List.set_cons_zero, List.set_cons_succ])) | ((with_reducible show wpD _ _ _ _ _ (_ :: _) _); first | refine wd_val rfl (ex_build rfl (b35_0)) ?_ | refine wd_val rfl (ex_build rfl (b35_1 _)) ?_ | refine wd_val rfl (ex_build rfl (b35_16 _ _ _ _ _ _ _ _ _ _ _ _ _ _ _ _)) ?_ | ((first | refine wd_val rfl (ex_move rfl rfl) ?_); try simp only [Act.eval, Array.getD_eq_getD_getElem?, List.getElem?_toArray, List.getElem?_cons_succ, List.getElem?_cons_zero, Option.getD_some, Act.put, List.setIfInBounds_toArray, List.set_cons_zero, List.set_cons_succ]) | refine wd_valH rfl (fun w hH => ex_loadC 0 rfl rfl hH rfl ?_) ?_ | refine wd_skip rfl ?_ | (refine wd_val (v := ?_) rfl ?_ ?_; rotate_left; focus (intro w; go_simp; try with_reducible rfl))) | ((with_reducible show wpD _ _ _ _ _ _ _); refine wd_done ?_; try dsimp only) | ((with_reducible show wpN _ _ _ _ _ _); refine wn_done ?_; try dsimp only)) <;> (first | ((with_reducible show wpList _ _ _ _ _ _); try simp only [Act.put, List.setIfInBounds_toArray, List.set_cons_zero, List.set_cons_succ]) | ((with_reducible show wpD _ _ _ _ _ _ _); try simp only [Act.put, List.setIfInBounds_toArray, List.set_cons_zero, List.set_cons_succ]) | (with_reducible show wpN _ _ _ _ _ _) | (with_reducible show Code.wp _ _ _ _ _) | (clear hH; intro w hH; (try simp only [List.nil_append, List.cons_append] at hH); (try simp only [Act.put, List.setIfInBounds_toArray, List.set_cons_zero, List.set_cons_succ] at hH ⊢)) | first | with_reducible assumption | omega | (simp only [List.length_set, List.length_replicate]; omega) | (simp; done) | (simp; omega))) | fail)
  go_loopw [0, 5] (fun c t wr => ∃ k x : Nat, k ≤ 4 ∧ t = .int .i64 k ∧ c = .int .i64 (x : Nat) ∧ Veil (x = m / 65536 ^ k) ∧ x ≤ m ∧ Has W wr [(b2, C .i64 (smR m k), 78), (b1, C .i64 (List.replicate 16 0), 35)]) (fun _ t _ => 4 - (intOf t).toNat)
  case atStart => exact ⟨0, m, by omega, rfl, rfl, ⟨by simp⟩, Nat.le_refl _, hH⟩
  case round =>
    clear hH
    obtain ⟨k, x, hk, rfl, rfl, HX, hxm, hH⟩ := hrel
    have hlen := smR_len m k
    by_cases hlt : k < 4
    · have HS : Veil (smR m (k + 1) = (smR m k).set k (x % 65536)) := ⟨by rw [smR, HX.out]⟩
      have HD : Veil (x / 65536 = m / 65536 ^ (k + 1)) := ⟨by rw [HX.out, Nat.div_div_eq_div_mul, Nat.pow_succ]⟩
      generalize smR m k = S at hlen HS hH ⊢
      go_wp2_with (first | ((first | ((with_reducible show wpList _ _ _ (_ :: _) _ _); first | refine wl_val rfl (ex_add_i64 rfl rfl rfl ?_) ?_ | refine wl_val rfl (ex_rem_i64 rfl rfl rfl ?_) ?_ | refine wl_val rfl (ex_quo_i64 rfl rfl rfl ?_ ?_) ?_ | refine wl_loadC 0 rfl rfl rfl hH rfl ?_ ?_ | refine wl_loadC 1 rfl rfl rfl hH rfl ?_ ?_ | ((with_reducible show wpList _ _ _ (⟨_, Op.store 3 _ _, _, _, _, _⟩ :: _) _ _); first | refine wl_storeC 0 rfl rfl rfl rfl hH rfl ?_ ?_ | refine wl_storeC 1 rfl rfl rfl rfl hH rfl ?_ ?_) | ((with_reducible show wpList _ _ _ (⟨_, Op.store 35 _ _, _, _, _, _⟩ :: _) _ _); first | refine wl_storerowC 0 rfl rfl rfl rfl hH rfl ?_ ?_ ?_ | refine wl_storerowC 1 rfl rfl rfl rfl hH rfl ?_ ?_ ?_) | refine wl_val rfl (ex_build rfl (b35_0)) ?_ | refine wl_val rfl (ex_build rfl (b35_1 _)) ?_ | refine wl_val rfl (ex_build rfl (b35_16 _ _ _ _ _ _ _ _ _ _ _ _ _ _ _ _)) ?_ | refine wl_val rfl (ex_ixaddr1 rfl rfl rfl ?_) ?_ | ((first | refine wl_val rfl (ex_move rfl rfl) ?_ | refine wl_val rfl (ex_assign rfl rfl) ?_); try simp only [Act.eval, Array.getD_eq_getD_getElem?, List.getElem?_toArray, List.getElem?_cons_succ, List.getElem?_cons_zero, Option.getD_some, Act.put, List.setIfInBounds_toArray, List.set_cons_zero, List.set_cons_succ])) | ((with_reducible show wpD _ _ _ _ _ (_ :: _) _); first | refine wd_val rfl (ex_add_i64 rfl rfl rfl ?_) ?_ | refine wd_val rfl (ex_build rfl (b35_0)) ?_ | refine wd_val rfl (ex_build rfl (b35_1 _)) ?_ | refine wd_val rfl (ex_build rfl (b35_16 _ _ _ _ _ _ _ _ _ _ _ _ _ _ _ _)) ?_ | ((first | refine wd_val rfl (ex_move rfl rfl) ?_); try simp only [Act.eval, Array.getD_eq_getD_getElem?, List.getElem?_toArray, List.getElem?_cons_succ, List.getElem?_cons_zero, Option.getD_some, Act.put, List.setIfInBounds_toArray, List.set_cons_zero, List.set_cons_succ]) | refine wd_valH rfl (fun w hH => ex_loadC 0 rfl rfl hH rfl ?_) ?_ | refine wd_valH rfl (fun w hH => ex_loadC 1 rfl rfl hH rfl ?_) ?_ | refine wd_skip rfl ?_ | (refine wd_val (v := ?_) rfl ?_ ?_; rotate_left; focus (intro w; go_simp; try with_reducible rfl))) | ((with_reducible show wpD _ _ _ _ _ _ _); refine wd_done ?_; try dsimp only) | ((with_reducible show wpN _ _ _ _ _ _); refine wn_done ?_; try dsimp only)) <;> (first | ((with_reducible show wpList _ _ _ _ _ _); try simp only [Act.put, List.setIfInBounds_toArray, List.set_cons_zero, List.set_cons_succ]) | ((with_reducible show wpD _ _ _ _ _ _ _); try simp only [Act.put, List.setIfInBounds_toArray, List.set_cons_zero, List.set_cons_succ]) | (with_reducible show wpN _ _ _ _ _ _) | (with_reducible show Code.wp _ _ _ _ _) | (clear hH; intro w hH; (try simp only [List.nil_append, List.cons_append] at hH); (try simp only [Act.put, List.setIfInBounds_toArray, List.set_cons_zero, List.set_cons_succ] at hH ⊢)) | first | with_reducible assumption | omega | (simp only [List.length_set, List.length_replicate]; omega) | (simp; done) | (simp; omega))) | fail)
      refine ⟨⟨k + 1, x / 65536, by omega, by first | rfl | go_num, by first | rfl | go_num, HD, by omega, ?_⟩, by simp [intOf]; omega⟩
      rw [HS.out]; exact hH
    · obtain rfl : k = 4 := by omega
      generalize smR m 4 = S at hlen hs hH ⊢
      go_wp2_with (first | ((first | ((with_reducible show wpList _ _ _ (_ :: _) _ _); first | refine wl_val rfl (ex_add_i64 rfl rfl rfl ?_) ?_ | refine wl_val rfl (ex_rem_i64 rfl rfl rfl ?_) ?_ | refine wl_val rfl (ex_quo_i64 rfl rfl rfl ?_ ?_) ?_ | refine wl_callc rfl rfl (f := 55) rfl (args1 _ _) (hs) hH ?_ | refine wl_loadC 0 rfl rfl rfl hH rfl ?_ ?_ | refine wl_loadC 1 rfl rfl rfl hH rfl ?_ ?_ | ((with_reducible show wpList _ _ _ (⟨_, Op.store 3 _ _, _, _, _, _⟩ :: _) _ _); first | refine wl_storeC 0 rfl rfl rfl rfl hH rfl ?_ ?_ | refine wl_storeC 1 rfl rfl rfl rfl hH rfl ?_ ?_) | ((with_reducible show wpList _ _ _ (⟨_, Op.store 35 _ _, _, _, _, _⟩ :: _) _ _); first | refine wl_storerowC 0 rfl rfl rfl rfl hH rfl ?_ ?_ ?_ | refine wl_storerowC 1 rfl rfl rfl rfl hH rfl ?_ ?_ ?_) | refine wl_val rfl (ex_build rfl (b35_0)) ?_ | refine wl_val rfl (ex_build rfl (b35_1 _)) ?_ | refine wl_val rfl (ex_build rfl (b35_16 _ _ _ _ _ _ _ _ _ _ _ _ _ _ _ _)) ?_ | refine wl_val rfl (ex_ixaddr1 rfl rfl rfl ?_) ?_ | ((first | refine wl_val rfl (ex_move rfl rfl) ?_ | refine wl_val rfl (ex_assign rfl rfl) ?_); try simp only [Act.eval, Array.getD_eq_getD_getElem?, List.getElem?_toArray, List.getElem?_cons_succ, List.getElem?_cons_zero, Option.getD_some, Act.put, List.setIfInBounds_toArray, List.set_cons_zero, List.set_cons_succ])) | ((with_reducible show wpD _ _ _ _ _ (_ :: _) _); first | refine wd_val rfl (ex_add_i64 rfl rfl rfl ?_) ?_ | refine wd_val rfl (ex_build rfl (b35_0)) ?_ | refine wd_val rfl (ex_build rfl (b35_1 _)) ?_ | refine wd_val rfl (ex_build rfl (b35_16 _ _ _ _ _ _ _ _ _ _ _ _ _ _ _ _)) ?_ | ((first | refine wd_val rfl (ex_move rfl rfl) ?_); try simp only [Act.eval, Array.getD_eq_getD_getElem?, List.getElem?_toArray, List.getElem?_cons_succ, List.getElem?_cons_zero, Option.getD_some, Act.put, List.setIfInBounds_toArray, List.set_cons_zero, List.set_cons_succ]) | refine wd_valH rfl (fun w hH => ex_loadC 0 rfl rfl hH rfl ?_) ?_ | refine wd_valH rfl (fun w hH => ex_loadC 1 rfl rfl hH rfl ?_) ?_ | refine wd_skip rfl ?_ | (refine wd_val (v := ?_) rfl ?_ ?_; rotate_left; focus (intro w; go_simp; try with_reducible rfl))) | ((with_reducible show wpD _ _ _ _ _ _ _); refine wd_done ?_; try dsimp only) | ((with_reducible show wpN _ _ _ _ _ _); refine wn_done ?_; try dsimp only)) <;> (first | ((with_reducible show wpList _ _ _ _ _ _); try simp only [Act.put, List.setIfInBounds_toArray, List.set_cons_zero, List.set_cons_succ]) | ((with_reducible show wpD _ _ _ _ _ _ _); try simp only [Act.put, List.setIfInBounds_toArray, List.set_cons_zero, List.set_cons_succ]) | (with_reducible show wpN _ _ _ _ _ _) | (with_reducible show Code.wp _ _ _ _ _) | (clear hH; intro w hH; (try simp only [List.nil_append, List.cons_append] at hH); (try simp only [Act.put, List.setIfInBounds_toArray, List.set_cons_zero, List.set_cons_succ] at hH ⊢)) | first | with_reducible assumption | omega | (simp only [List.length_set, List.length_replicate]; omega) | (simp; done) | (simp; omega))) | fail)
      refine ret_cell 1 rfl rfl hH rfl ?_ rfl ⟨rfl, hH.below⟩
      rw [C_size]; omega

set_option maxRecDepth 100000 in
set_option maxHeartbeats 1000000 in
theorem rsmall_neg_walk {m : Nat} {a b Q : List Nat} (hm : m < 9223372036854775808) {n : Int} (hn : n = -(m : Int) - 1) (hal : a.length = 16) (hbl : b.length = 16) (hQ : Q.length = 16)
    (hp : Ret 27 #[.int .i64 (m : Int)] (.agg (C .i64 a))) (h1 : Ret 36 #[.agg (C .i64 [0, 0, 0, 0, 0, 0, 0, 0, 0, 0, 0, 0, 0, 0, 0, 0]), .agg (C .i64 a)] (.agg (C .i64 b)))
    (h2 : Ret 36 #[.agg (C .i64 b), .agg (C .i64 [1, 0, 0, 0, 0, 0, 0, 0, 0, 0, 0, 0, 0, 0, 0, 0])] (.agg (C .i64 Q))) :
    Ret 27 #[.int .i64 n] (.agg (C .i64 Q)) := by
  have hneg : n < 0 := by omega
  have hw1 : IntKind.i64.wrap (n + 1) = n + 1 := IntWalk.i64_in _ ⟨by omega, by omega⟩
  have hw2 : IntKind.i64.wrap (-(n + 1)) = -(n + 1) := IntWalk.i64_in _ ⟨by omega, by omega⟩
  have e1 : -(n + 1) = (m : Int) := by omega
  rw [← e1] at hp
  have HN : Veil (n = -(m : Int) - 1 ∧ m < 9223372036854775808) := ⟨hn, hm⟩
  clear hn e1 hm
  refine ⟨fun w => ?_⟩
  obtain ⟨W, hW⟩ : ∃ W, W = w := ⟨_, rfl⟩
  have hH := Has.nil W
  rw [← hW]
  clear hW
  go_enter Try.func27, Try.ntmps27
  apply wp_seq_k; intro K1 hK1
  apply wp_region_lit
  refine wl_allocA rfl rfl z35 hH ?_
  clear hH; intro b1 w hH
  simp only [Act.put, List.setIfInBounds_toArray, List.set_cons_zero, List.set_cons_succ]
  go_wp2_with (first | ((first | ((with_reducible show wpList _ _ _ (_ :: _) _ _); first | (refine wl_allocA rfl rfl z35 hH ?_; clear hH; intro b2 w hH) | refine wl_loadC 0 rfl rfl rfl hH rfl ?_ ?_ | refine wl_loadC 1 rfl rfl rfl hH rfl ?_ ?_ | ((with_reducible show wpList _ _ _ (⟨_, Op.store 3 _ _, _, _, _, _⟩ :: _) _ _); first | refine wl_storeC 0 rfl rfl rfl rfl hH rfl ?_ ?_ | refine wl_storeC 1 rfl rfl rfl rfl hH rfl ?_ ?_) | ((with_reducible show wpList _ _ _ (⟨_, Op.store 35 _ _, _, _, _, _⟩ :: _) _ _); first | refine wl_storerowC 0 rfl rfl rfl rfl hH rfl ?_ ?_ ?_ | refine wl_storerowC 1 rfl rfl rfl rfl hH rfl ?_ ?_ ?_) | refine wl_val rfl (ex_build rfl (b35_0)) ?_ | refine wl_val rfl (ex_build rfl (b35_1 _)) ?_ | refine wl_val rfl (ex_build rfl (b35_16 _ _ _ _ _ _ _ _ _ _ _ _ _ _ _ _)) ?_ | refine wl_val rfl (ex_ixaddr1 rfl rfl rfl ?_) ?_ | ((first | refine wl_val rfl (ex_move rfl rfl) ?_ | refine wl_val rfl (ex_assign rfl rfl) ?_); try simp only [Act.eval, Array.getD_eq_getD_getElem?, List.getElem?_toArray, List.getElem?_cons_succ, List.getElem?_cons_zero, Option.getD_some, Act.put, List.setIfInBounds_toArray, List.set_cons_zero, List.set_cons_succ])) | ((with_reducible show wpD _ _ _ _ _ (_ :: _) _); first | refine wd_call rfl rfl (f := 27) rfl (args1 _ _) (hp) ?_ | refine wd_call rfl (show _ = Op.call { callee := _, args := #[Operand.tmp 9, Operand.tmp 13], argTypes := _ } from rfl) (f := 36) rfl (args2 _ _ _) (h1) ?_ | refine wd_call rfl (show _ = Op.call { callee := _, args := #[Operand.tmp 14, Operand.tmp 15], argTypes := _ } from rfl) (f := 36) rfl (args2 _ _ _) (h2) ?_ | refine wd_val rfl (ex_build rfl (b35_0)) ?_ | refine wd_val rfl (ex_build rfl (b35_1 _)) ?_ | refine wd_val rfl (ex_build rfl (b35_16 _ _ _ _ _ _ _ _ _ _ _ _ _ _ _ _)) ?_ | ((first | refine wd_val rfl (ex_move rfl rfl) ?_); try simp only [Act.eval, Array.getD_eq_getD_getElem?, List.getElem?_toArray, List.getElem?_cons_succ, List.getElem?_cons_zero, Option.getD_some, Act.put, List.setIfInBounds_toArray, List.set_cons_zero, List.set_cons_succ]) | refine wd_valH rfl (fun w hH => ex_loadC 0 rfl rfl hH rfl ?_) ?_ | refine wd_valH rfl (fun w hH => ex_loadC 1 rfl rfl hH rfl ?_) ?_ | refine wd_skip rfl ?_ | (refine wd_val (v := ?_) rfl ?_ ?_; rotate_left; focus (intro w; go_simp; try with_reducible rfl))) | ((with_reducible show Code.wp _ (Code.region 3 _ true) _ _ _); refine wp_draw 8 [] (by kernel_rfl) hH ?_) | ((with_reducible show wpD _ _ _ _ _ _ _); refine wd_done ?_; try dsimp only) | ((with_reducible show wpN _ _ _ _ _ _); refine wn_done ?_; try dsimp only)) <;> (first | ((with_reducible show wpList _ _ _ _ _ _); try simp only [Act.put, List.setIfInBounds_toArray, List.set_cons_zero, List.set_cons_succ]) | ((with_reducible show wpD _ _ _ _ _ _ _); try simp only [Act.put, List.setIfInBounds_toArray, List.set_cons_zero, List.set_cons_succ]) | (with_reducible show wpN _ _ _ _ _ _) | (with_reducible show Code.wp _ _ _ _ _) | (clear hH; intro w hH; (try simp only [List.nil_append, List.cons_append] at hH); (try simp only [Act.put, List.setIfInBounds_toArray, List.set_cons_zero, List.set_cons_succ] at hH ⊢)) | first | with_reducible assumption | omega | (simp only [List.length_set, List.length_replicate]; omega) | (simp; done) | (simp; omega))) | fail)
  refine ret_cell 1 rfl rfl hH rfl ?_ rfl ⟨rfl, hH.below⟩
  rw [C_size]; omega

set_option maxRecDepth 100000 in
set_option maxHeartbeats 1000000 in
theorem rinv_walk {a c Q : List Nat} (ha : a.length = 16) (hc : c.length = 16) (hQ : Q.length = 16) (hm : Ret 57 #[.agg (C .i64 primeL), .agg (C .i64 [2, 0, 0, 0, 0, 0, 0, 0, 0, 0, 0, 0, 0, 0, 0, 0])] (.agg (C .i64 c)))
    (hs : Ret 40 #[.agg (C .i64 a), .agg (C .i64 c)] (.agg (C .i64 Q))) :
    Ret 42 #[.agg (C .i64 a)] (.agg (C .i64 Q)) := by
  refine ⟨fun w => ?_⟩
  obtain ⟨W, hW⟩ : ∃ W, W = w := ⟨_, rfl⟩
  have hH := Has.nil W
  rw [← hW]
  clear hW
  go_enter Try.func42, Try.ntmps42
  apply wp_seq_k; intro K1 hK1
  apply wp_region_lit
  refine wl_boxA rfl rfl rfl hH ?_
  clear hH; intro b1 w hH
  simp only [Act.put, List.setIfInBounds_toArray, List.set_cons_zero, List.set_cons_succ]
  refine wl_allocA rfl rfl z35 hH ?_
  clear hH; intro b2 w hH
  simp only [Act.put, List.setIfInBounds_toArray, List.set_cons_zero, List.set_cons_succ]
  go_wp2_with (first | ((first | ((with_reducible show wpList _ _ _ (_ :: _) _ _); first | refine wl_storerowC 0 rfl rfl rfl rfl hH rfl ?_ ?_ ?_ | refine wl_storerowC 1 rfl rfl rfl rfl hH rfl ?_ ?_ ?_) | ((with_reducible show wpD _ _ _ _ _ (_ :: _) _); first | refine wd_call rfl rfl (f := 58) rfl (args0 _) (prime_any) ?_ | refine wd_call rfl rfl (f := 57) rfl (args2 _ _ _) (hm) ?_ | refine wd_call rfl rfl (f := 40) rfl (args2 _ _ _) (hs) ?_ | refine wd_val rfl (ex_build rfl (b35_0)) ?_ | refine wd_val rfl (ex_build rfl (b35_1 _)) ?_ | refine wd_val rfl (ex_build rfl (b35_16 _ _ _ _ _ _ _ _ _ _ _ _ _ _ _ _)) ?_ | refine wd_valH rfl (fun w hH => ex_loadC 0 rfl rfl hH rfl ?_) ?_ | refine wd_valH rfl (fun w hH => ex_loadC 1 rfl rfl hH rfl ?_) ?_ | refine wd_skip rfl ?_ | (refine wd_val (v := ?_) rfl ?_ ?_; rotate_left; focus (intro w; go_simp; try with_reducible rfl))) | ((with_reducible show Code.wp _ (Code.region 1 _ true) _ _ _); refine wp_draw 5 [] (by kernel_rfl) hH ?_) | ((with_reducible show wpD _ _ _ _ _ _ _); refine wd_done ?_; try dsimp only) | ((with_reducible show wpN _ _ _ _ _ _); refine wn_done ?_; try dsimp only)) <;> (first | ((with_reducible show wpList _ _ _ _ _ _); try simp only [Act.put, List.setIfInBounds_toArray, List.set_cons_zero, List.set_cons_succ]) | ((with_reducible show wpD _ _ _ _ _ _ _); try simp only [Act.put, List.setIfInBounds_toArray, List.set_cons_zero, List.set_cons_succ]) | (with_reducible show wpN _ _ _ _ _ _) | (with_reducible show Code.wp _ _ _ _ _) | (clear hH; intro w hH; (try simp only [List.nil_append, List.cons_append] at hH); (try simp only [Act.put, List.setIfInBounds_toArray, List.set_cons_zero, List.set_cons_succ] at hH ⊢)) | first | with_reducible assumption | omega | (simp only [List.length_set, List.length_replicate]; omega) | (simp; done) | (simp; omega))) | fail)
  refine ret_cell 0 rfl rfl hH rfl ?_ rfl ⟨rfl, hH.below⟩
  rw [C_size]; omega
end Go.Proofs.Ytmbbdblmengdhaa
