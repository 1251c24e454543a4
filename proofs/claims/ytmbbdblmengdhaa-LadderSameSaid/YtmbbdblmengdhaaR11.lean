/- The reference's Come, Public and Agree by value. -/
import Derived.Test.YtmbbdblmengdhaaR10
import Derived.Test.YtmbbdblmengdhaaA14
set_option linter.unusedSimpArgs false
set_option linter.unusedVariables false
namespace Go.Proofs.Ytmbbdblmengdhaa
open Go.RowKit

theorem ladN_lt {u : Nat} (hu : u < pP) (bits : Nat → Bool) (n : Nat) : (ladN u bits n).x0 < pP ∧ (ladN u bits n).z0 < pP ∧ (ladN u bits n).x1 < pP ∧ (ladN u bits n).z1 < pP := by
  have h1 : 1 < pP := by decide +kernel
  exact (ladG_map addN subN mulN kN u (add' := fadd) (sub' := fsub) (mul' := fmul) toF (· < pP) (fun x y _ _ => ⟨addN_lt x y, toF_addN x y⟩)
    (fun x y _ hy => ⟨subN_lt x y, toF_subN (Nat.le_of_lt hy)⟩) (fun x y _ _ => ⟨mulN_lt x y, toF_mulN x y⟩) (by decide +kernel) hu bits ⟨1, 0, u, 1⟩ ⟨h1, pP_pos, hu, h1⟩ n).1
/-- The reference's sides at bit j. -/
def sidesD (u c j : Nat) : Sides Nat := ladN u (bitsOf c 255) (255 - j)
theorem sidesD_step {u c j : Nat} (hj : j < 255) : sidesD u c j = stepB addN subN mulN kN u (c.testBit j) (sidesD u c (j + 1)) := by
  unfold sidesD
  have e : 255 - j = (255 - (j + 1)) + 1 := by omega
  rw [e]
  have e2 : bitsOf c 255 (255 - (j + 1)) = c.testBit j := by
    unfold bitsOf
    congr 1
    omega
  rw [← e2]
  rfl
def sidesL (s : Sides Nat) : List Nat × List Nat × List Nat × List Nat := (D16 s.x0, D16 s.z0, D16 s.x1, D16 s.z1)

theorem rcome_ex {k : List Nat} {u : Nat} (hk : k.length = 32) (hkb : ∀ i, k.getD i 0 < 256) (hu : u < pP) : Ret 63 #[vK k, vR u] (vK (key32 (comeN (secN k) u))) := by
  have hK : (clampL k).length = 32 := by rw [clampL_len, hk]
  have hKb := clamp_dig hkb
  have hkn : Ret 27 #[.int .i64 ((121665 : Nat) : Int)] (.agg (C .i64 (D16 (121665 % pP)))) := rsmall_pos (by decide)
  rw [show 121665 % pP = kN by decide +kernel] at hkn
  have hlt := fun j => ladN_lt hu (bitsOf (secN k) 255) (255 - j)
  have hlen : ∀ s : Sides Nat, (sidesL s).1.length = 16 ∧ (sidesL s).2.1.length = 16 ∧ (sidesL s).2.2.1.length = 16 ∧ (sidesL s).2.2.2.length = 16 := fun s => ⟨D16_len _, D16_len _, D16_len _, D16_len _⟩
  have hz := hlt 0
  rw [← come_255 (secN_sec hk hkb) hu]
  refine rcome_walk (K := clampL k) (KN := D16 kN) (one := D16 1) (zer := D16 0) (S := fun j => sidesL (sidesD u (secN k) j)) (bit := fun j => (secN k).testBit j) hk hK hKb (D16_len _) (D16_len _) (key32_len _) (D16_len _) D16_1 D16_0
    (rclamp_any hk hkb) hkn ⟨rfl⟩ ⟨fun j => hlen _⟩ ⟨fun j hj => keyBit_test hK hKb (by omega)⟩ ⟨fun j hj hb => ?_⟩ ⟨fun j hj hb => ?_⟩
    (rinv_ex (x := (ladN u (bitsOf (secN k) 255) 255).z0) hz.2.1) (rmul_ex hz.1 (powV_lt _ _)) (rbytes_D16 (Nat.lt_of_lt_of_le (mulN_lt _ _) (by omega)))
  · have hs := sidesD_step (u := u) (c := secN k) hj
    have hb' : (secN k).testBit j = false := hb
    rw [hb'] at hs
    obtain ⟨g0, g1, g2, g3⟩ := hlt (j + 1)
    have hr := rstep_ex g0 g1 g2 g3 hu
    simp only [hs]
    exact hr
  · have hs := sidesD_step (u := u) (c := secN k) hj
    have hb' : (secN k).testBit j = true := hb
    rw [hb'] at hs
    obtain ⟨g0, g1, g2, g3⟩ := hlt (j + 1)
    have hr := rstep_ex g2 g3 g0 g1 hu
    simp only [hs]
    exact hr

set_option maxRecDepth 100000 in
set_option maxHeartbeats 1000000 in
theorem rpublic_walk {k n out : List Nat} (hk : k.length = 32) (hout : out.length = 32) (h1 : Ret 27 #[.int .i64 9] (.agg (C .i64 n))) (h2 : Ret 63 #[.agg (C .u8 k), .agg (C .i64 n)] (.agg (C .u8 out))) :
    Ret 45 #[.agg (C .u8 k)] (.agg (C .u8 out)) := by
  refine ⟨fun w => ?_⟩
  obtain ⟨W, hW⟩ : ∃ W, W = w := ⟨_, rfl⟩
  have hH := Has.nil W
  rw [← hW]
  clear hW
  go_enter Try.func45, Try.ntmps45
  apply wp_seq_k; intro K1 hK1
  apply wp_region_lit
  refine wl_boxA rfl rfl rfl hH ?_
  clear hH; intro b1 w hH
  simp only [Act.put, List.setIfInBounds_toArray, List.set_cons_zero, List.set_cons_succ]
  refine wl_allocA rfl rfl z23 hH ?_
  clear hH; intro b2 w hH
  simp only [Act.put, List.setIfInBounds_toArray, List.set_cons_zero, List.set_cons_succ]
  go_wp2_with (first | ((first | ((with_reducible show wpList _ _ _ (_ :: _) _ _); first | refine wl_storerowC 0 rfl rfl rfl rfl hH rfl ?_ ?_ ?_ | refine wl_storerowC 1 rfl rfl rfl rfl hH rfl ?_ ?_ ?_) | ((with_reducible show wpD _ _ _ _ _ (_ :: _) _); first | refine wd_call rfl rfl (f := 27) rfl (args1 _ _) (h1) ?_ | refine wd_call rfl rfl (f := 63) rfl (args2 _ _ _) (h2) ?_ | refine wd_valH rfl (fun w hH => ex_loadC 0 rfl rfl hH rfl ?_) ?_ | refine wd_valH rfl (fun w hH => ex_loadC 1 rfl rfl hH rfl ?_) ?_ | refine wd_skip rfl ?_ | (refine wd_val (v := ?_) rfl ?_ ?_; rotate_left; focus (intro w; go_simp; try with_reducible rfl))) | ((with_reducible show Code.wp _ (Code.region 1 _ true) _ _ _); refine wp_draw 3 [] (by kernel_rfl) hH ?_) | ((with_reducible show wpD _ _ _ _ _ _ _); refine wd_done ?_; try dsimp only) | ((with_reducible show wpN _ _ _ _ _ _); refine wn_done ?_; try dsimp only)) <;> (first | ((with_reducible show wpList _ _ _ _ _ _); try simp only [Act.put, List.setIfInBounds_toArray, List.set_cons_zero, List.set_cons_succ]) | ((with_reducible show wpD _ _ _ _ _ _ _); try simp only [Act.put, List.setIfInBounds_toArray, List.set_cons_zero, List.set_cons_succ]) | (with_reducible show wpN _ _ _ _ _ _) | (with_reducible show Code.wp _ _ _ _ _) | (clear hH; intro w hH; (try simp only [List.nil_append, List.cons_append] at hH); (try simp only [Act.put, List.setIfInBounds_toArray, List.set_cons_zero, List.set_cons_succ] at hH ⊢)) | first | with_reducible assumption | omega | (simp only [List.length_set, List.length_replicate]; omega) | (simp; done) | (simp; omega))) | fail)
  refine ret_cell 0 rfl rfl hH rfl ?_ rfl ⟨rfl, hH.below⟩
  rw [C_size]; exact hout
theorem rpublic_ex {k : List Nat} (hk : k.length = 32) (hkb : ∀ i, k.getD i 0 < 256) : Ret 45 #[vK k] (vK (key32 (pubN k))) := by
  have h := rsmall_pos (m := 9) (by decide)
  rw [show 9 % pP = 9 by decide +kernel] at h
  exact rpublic_walk hk (key32_len _) h (rcome_ex hk hkb (by decide +kernel))

set_option maxRecDepth 100000 in
set_option maxHeartbeats 1000000 in
theorem ragree_walk {k p n out : List Nat} {b : Bool} {e : Nat} (hk : k.length = 32) (hp : p.length = 32) (hout : out.length = 32) (h1 : Ret 25 #[.agg (C .u8 p)] (.agg (C .i64 n))) (h2 : Ret 63 #[.agg (C .u8 k), .agg (C .i64 n)] (.agg (C .u8 out)))
    (HB : Veil (decide (out = List.replicate 32 0) = b)) (he : (if b = true then 4 else 0) = e) :
    Ret 47 #[.agg (C .u8 k), .agg (C .u8 p)] (.tuple #[.agg (C .u8 out), .int .i64 (e : Nat)]) := by
  cases b with
  | true =>
    rw [if_pos rfl] at he
    subst he
    refine ⟨fun w => ?_⟩
    obtain ⟨W, hW⟩ : ∃ W, W = w := ⟨_, rfl⟩
    have hH := Has.nil W
    rw [← hW]
    clear hW
    go_enter Try.func47, Try.ntmps47
    apply wp_seq_k; intro K1 hK1
    apply wp_region_lit
    refine wl_boxA rfl rfl rfl hH ?_
    clear hH; intro b1 w hH
    simp only [Act.put, List.setIfInBounds_toArray, List.set_cons_zero, List.set_cons_succ]
    refine wl_boxA rfl rfl rfl hH ?_
    clear hH; intro b2 w hH
    simp only [Act.put, List.setIfInBounds_toArray, List.set_cons_zero, List.set_cons_succ]
    refine wl_allocA rfl rfl z23 hH ?_
    clear hH; intro b3 w hH
    simp only [Act.put, List.setIfInBounds_toArray, List.set_cons_zero, List.set_cons_succ]
    go_wp2_with (first | ((first | ((with_reducible show wpList _ _ _ (_ :: _) _ _); first | refine wl_val rfl (ex_eqlV rfl rfl rfl ?_ ?_ HB.out) ?_ | refine wl_loadC 0 rfl rfl rfl hH rfl ?_ ?_ | refine wl_loadC 1 rfl rfl rfl hH rfl ?_ ?_ | refine wl_loadC 2 rfl rfl rfl hH rfl ?_ ?_ | refine wl_loadC 3 rfl rfl rfl hH rfl ?_ ?_ | refine wl_loadC 4 rfl rfl rfl hH rfl ?_ ?_ | refine wl_storerowC 0 rfl rfl rfl rfl hH rfl ?_ ?_ ?_ | refine wl_storerowC 1 rfl rfl rfl rfl hH rfl ?_ ?_ ?_ | refine wl_storerowC 2 rfl rfl rfl rfl hH rfl ?_ ?_ ?_ | refine wl_storerowC 3 rfl rfl rfl rfl hH rfl ?_ ?_ ?_ | refine wl_storerowC 4 rfl rfl rfl rfl hH rfl ?_ ?_ ?_ | refine wl_val rfl (ex_build rfl (b23_0)) ?_ | refine wl_val rfl (ex_build rfl (b23_1 _)) ?_ | refine wl_val rfl (ex_build rfl (b23_31 _)) ?_ | ((first | refine wl_val rfl (ex_assign rfl rfl) ?_); try simp only [Act.eval, Array.getD_eq_getD_getElem?, List.getElem?_toArray, List.getElem?_cons_succ, List.getElem?_cons_zero, Option.getD_some, Act.put, List.setIfInBounds_toArray, List.set_cons_zero, List.set_cons_succ])) | ((with_reducible show wpD _ _ _ _ _ (_ :: _) _); first | refine wd_call rfl rfl (f := 25) rfl (args1 _ _) (h1) ?_ | refine wd_call rfl rfl (f := 63) rfl (args2 _ _ _) (h2) ?_ | refine wd_valH rfl (fun w hH => ex_loadC 0 rfl rfl hH rfl ?_) ?_ | refine wd_valH rfl (fun w hH => ex_loadC 1 rfl rfl hH rfl ?_) ?_ | refine wd_valH rfl (fun w hH => ex_loadC 2 rfl rfl hH rfl ?_) ?_ | refine wd_valH rfl (fun w hH => ex_loadC 3 rfl rfl hH rfl ?_) ?_ | refine wd_valH rfl (fun w hH => ex_loadC 4 rfl rfl hH rfl ?_) ?_ | refine wd_skip rfl ?_ | (refine wd_val (v := ?_) rfl ?_ ?_; rotate_left; focus (intro w; go_simp; try with_reducible rfl))) | ((with_reducible show Code.wp _ (Code.region 1 _ true) _ _ _); refine wp_draw 4 [(C .u8 (List.replicate 32 0), 23)] (by kernel_rfl) hH ?_) | ((refine wn_alloc rfl rfl z23 ?_; intro bn; try dsimp only)) | ((with_reducible show wpD _ _ _ _ _ _ _); refine wd_done ?_; try dsimp only) | ((with_reducible show wpN _ _ _ _ _ _); refine wn_done ?_; try dsimp only)) <;> (first | ((with_reducible show wpList _ _ _ _ _ _); try simp only [Act.put, List.setIfInBounds_toArray, List.set_cons_zero, List.set_cons_succ]) | ((with_reducible show wpD _ _ _ _ _ _ _); try simp only [Act.put, List.setIfInBounds_toArray, List.set_cons_zero, List.set_cons_succ]) | (with_reducible show wpN _ _ _ _ _ _) | (with_reducible show Code.wp _ _ _ _ _) | (clear hH; intro w hH; (try simp only [List.nil_append, List.cons_append] at hH); (try simp only [Act.put, List.setIfInBounds_toArray, List.set_cons_zero, List.set_cons_succ] at hH ⊢)) | first | with_reducible assumption | omega | (simp only [List.length_set, List.length_replicate]; omega) | (simp; done) | (simp; omega))) | fail)
    refine ret_cell2 1 rfl rfl hH rfl ?_ rfl rfl ⟨rfl, hH.below⟩
    rw [C_size]; exact hout
  | false =>
    rw [if_neg (by simp)] at he
    subst he
    refine ⟨fun w => ?_⟩
    obtain ⟨W, hW⟩ : ∃ W, W = w := ⟨_, rfl⟩
    have hH := Has.nil W
    rw [← hW]
    clear hW
    go_enter Try.func47, Try.ntmps47
    apply wp_seq_k; intro K1 hK1
    apply wp_region_lit
    refine wl_boxA rfl rfl rfl hH ?_
    clear hH; intro b1 w hH
    simp only [Act.put, List.setIfInBounds_toArray, List.set_cons_zero, List.set_cons_succ]
    refine wl_boxA rfl rfl rfl hH ?_
    clear hH; intro b2 w hH
    simp only [Act.put, List.setIfInBounds_toArray, List.set_cons_zero, List.set_cons_succ]
    refine wl_allocA rfl rfl z23 hH ?_
    clear hH; intro b3 w hH
    simp only [Act.put, List.setIfInBounds_toArray, List.set_cons_zero, List.set_cons_succ]
    go_wp2_with (first | ((first | ((with_reducible show wpList _ _ _ (_ :: _) _ _); first | refine wl_val rfl (ex_eqlV rfl rfl rfl ?_ ?_ HB.out) ?_ | refine wl_loadC 0 rfl rfl rfl hH rfl ?_ ?_ | refine wl_loadC 1 rfl rfl rfl hH rfl ?_ ?_ | refine wl_loadC 2 rfl rfl rfl hH rfl ?_ ?_ | refine wl_loadC 3 rfl rfl rfl hH rfl ?_ ?_ | refine wl_loadC 4 rfl rfl rfl hH rfl ?_ ?_ | refine wl_storerowC 0 rfl rfl rfl rfl hH rfl ?_ ?_ ?_ | refine wl_storerowC 1 rfl rfl rfl rfl hH rfl ?_ ?_ ?_ | refine wl_storerowC 2 rfl rfl rfl rfl hH rfl ?_ ?_ ?_ | refine wl_storerowC 3 rfl rfl rfl rfl hH rfl ?_ ?_ ?_ | refine wl_storerowC 4 rfl rfl rfl rfl hH rfl ?_ ?_ ?_ | refine wl_val rfl (ex_build rfl (b23_0)) ?_ | refine wl_val rfl (ex_build rfl (b23_1 _)) ?_ | refine wl_val rfl (ex_build rfl (b23_31 _)) ?_ | ((first | refine wl_val rfl (ex_assign rfl rfl) ?_); try simp only [Act.eval, Array.getD_eq_getD_getElem?, List.getElem?_toArray, List.getElem?_cons_succ, List.getElem?_cons_zero, Option.getD_some, Act.put, List.setIfInBounds_toArray, List.set_cons_zero, List.set_cons_succ])) | ((with_reducible show wpD _ _ _ _ _ (_ :: _) _); first | refine wd_call rfl rfl (f := 25) rfl (args1 _ _) (h1) ?_ | refine wd_call rfl rfl (f := 63) rfl (args2 _ _ _) (h2) ?_ | refine wd_valH rfl (fun w hH => ex_loadC 0 rfl rfl hH rfl ?_) ?_ | refine wd_valH rfl (fun w hH => ex_loadC 1 rfl rfl hH rfl ?_) ?_ | refine wd_valH rfl (fun w hH => ex_loadC 2 rfl rfl hH rfl ?_) ?_ | refine wd_valH rfl (fun w hH => ex_loadC 3 rfl rfl hH rfl ?_) ?_ | refine wd_valH rfl (fun w hH => ex_loadC 4 rfl rfl hH rfl ?_) ?_ | refine wd_skip rfl ?_ | (refine wd_val (v := ?_) rfl ?_ ?_; rotate_left; focus (intro w; go_simp; try with_reducible rfl))) | ((with_reducible show Code.wp _ (Code.region 1 _ true) _ _ _); refine wp_draw 4 [(C .u8 (List.replicate 32 0), 23)] (by kernel_rfl) hH ?_) | ((refine wn_alloc rfl rfl z23 ?_; intro bn; try dsimp only)) | ((with_reducible show wpD _ _ _ _ _ _ _); refine wd_done ?_; try dsimp only) | ((with_reducible show wpN _ _ _ _ _ _); refine wn_done ?_; try dsimp only)) <;> (first | ((with_reducible show wpList _ _ _ _ _ _); try simp only [Act.put, List.setIfInBounds_toArray, List.set_cons_zero, List.set_cons_succ]) | ((with_reducible show wpD _ _ _ _ _ _ _); try simp only [Act.put, List.setIfInBounds_toArray, List.set_cons_zero, List.set_cons_succ]) | (with_reducible show wpN _ _ _ _ _ _) | (with_reducible show Code.wp _ _ _ _ _) | (clear hH; intro w hH; (try simp only [List.nil_append, List.cons_append] at hH); (try simp only [Act.put, List.setIfInBounds_toArray, List.set_cons_zero, List.set_cons_succ] at hH ⊢)) | first | with_reducible assumption | omega | (simp only [List.length_set, List.length_replicate]; omega) | (simp; done) | (simp; omega))) | fail)
    refine ret_cell2 1 rfl rfl hH rfl ?_ rfl rfl ⟨rfl, hH.below⟩
    rw [C_size]; exact hout
def errN (n : Nat) : Nat := if n = 0 then 4 else 0
theorem ragree_ex {k p : List Nat} (hk : k.length = 32) (hkb : ∀ i, k.getD i 0 < 256) (hp : p.length = 32) (hpb : ∀ i, p.getD i 0 < 256) :
    Ret 47 #[vK k, vK p] (.tuple #[vK (key32 (agrN k p)), .int .i64 (errN (agrN k p) : Nat)]) := by
  refine ragree_walk hk hp (key32_len _) (rfrom_ex hp hpb) (rcome_ex hk hkb (keyN_lt p)) ⟨key32_z (agrN_lt k p)⟩ ?_
  unfold errN
  by_cases h : agrN k p = 0
  · simp only [h, decide_true, if_true]
  · simp only [h, decide_false, Bool.false_eq_true, if_false]
/-- An error's number. -/
theorem num_ex (n : Nat) : Ret 31 #[errV n] (.int .i64 (errN n : Nat)) := by
  unfold errV errN
  by_cases h : n = 0
  · simp only [h, if_true]; exact num_err
  · simp only [h, if_false]; exact num_nil
end Go.Proofs.Ytmbbdblmengdhaa
