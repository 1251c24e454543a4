/- Inv, imaginary by value; Root. -/
import Derived.Test.YtmbbdblmengdhaaA11
import Derived.Test.YtmbbdblmengdhaaV13
import Derived.Test.YtmbbdblmengdhaaB7
set_option linter.unusedSimpArgs false
set_option linter.unusedVariables false
namespace Go.Proofs.Ytmbbdblmengdhaa
open Go.RowKit

theorem less_ex {m sh : Nat} (hm0 : 0 < m) (hm : m < 100) (hsh : sh < 100) : Ret 60 #[.int .i64 (m : Int), .int .i64 (sh : Int)] (vK (shN (key32 (pP - m)) sh)) := by
  obtain ⟨s, l1, r1⟩ := small_ex (m := m) (by omega)
  obtain ⟨d, l2, r2⟩ := sub_ex zero_lim l1
  have hp : 100 < pP := by decide +kernel
  rw [Nat.mod_eq_of_lt (by omega), pP_sub m hm0 (by omega)] at l2
  exact less_walk hsh l1.len l2.len (key32_len _) r1 r2 (bytes_lim l2)
theorem less_inv : Ret 60 #[.int .i64 2, .int .i64 0] (vK (key32 (pP - 2))) := less_ex (m := 2) (sh := 0) (by decide) (by decide) (by decide)
theorem less_imag : Ret 60 #[.int .i64 1, .int .i64 2] (vK (key32 ((pP - 1) / 4))) := by
  have h := less_ex (m := 1) (sh := 2) (by decide) (by decide) (by decide)
  rw [show shN (key32 (pP - 1)) 2 = key32 ((pP - 1) / 4) by decide +kernel] at h
  exact h
theorem less_root : Ret 60 #[.int .i64 5, .int .i64 3] (vK (key32 ((pP - 5) / 8))) := by
  have h := less_ex (m := 5) (sh := 3) (by decide) (by decide) (by decide)
  rw [show shN (key32 (pP - 5)) 3 = key32 ((pP - 5) / 8) by decide +kernel] at h
  exact h
theorem pow_key32 {a : List Nat} {x n : Nat} (ha : Lim a x) (hn : n < pP) : Lim (powL a (upBits (key32 n) 256)) (powV x n) := by
  have := pow_key ha (key32_len n) (key32_dig n)
  rwa [valN_key32 hn] at this
theorem inv_ex {a : List Nat} {x : Nat} (ha : Lim a x) : ∃ r, Lim r (powV x (pP - 2)) ∧ Ret 41 #[vF a] (vF r) := by
  have hl := pow_key32 (n := pP - 2) ha (by decide +kernel)
  exact ⟨_, hl, inv_walk ha (key32_len _) (key32_dig _) hl.len ⟨rfl⟩ less_inv⟩
theorem imag_ex : ∃ r, Lim r rtI ∧ Ret 61 #[] (vF r) := by
  obtain ⟨s, l1, r1⟩ := small_ex (m := 2) (by decide)
  rw [show 2 % pP = 2 by decide +kernel] at l1
  have hl := pow_key32 (n := (pP - 1) / 4) l1 (by decide +kernel)
  exact ⟨_, hl, imag_walk l1 (key32_len _) (key32_dig _) hl.len ⟨rfl⟩ r1 less_imag⟩

set_option maxRecDepth 100000 in
set_option maxHeartbeats 1000000 in
theorem root_walk {a k p r0 q0 i r1 q1 n rf res : List Nat} {b0 b1 od : Bool} (hal : a.length = 5) (hk : k.length = 32) (hpl : p.length = 5) (hr0 : r0.length = 5) (hq0l : q0.length = 5) (hil : i.length = 5) (hr1 : r1.length = 5) (hq1l : q1.length = 5) (hnl : n.length = 5)
    (HP : Veil (∀ {W : Base} {bs : List Blk} (i : Nat) {kb : Nat}, bs[i]? = some (kb, C .u8 k, 23) → RetH W bs 39 #[.agg (C .u64 a), itV kb] (.agg (C .u64 p))))
    (h6 : Ret 60 #[.int .i64 5, .int .i64 3] (.agg (C .u8 k))) (hm : Ret 23 #[.agg (C .u64 p), .agg (C .u64 a)] (.agg (C .u64 r0))) (hq0 : Ret 23 #[.agg (C .u64 r0), .agg (C .u64 r0)] (.agg (C .u64 q0))) (he0 : Ret 37 #[.agg (C .u64 q0), .agg (C .u64 a)] (.bool b0))
    (him : Ret 61 #[] (.agg (C .u64 i))) (hm1 : Ret 23 #[.agg (C .u64 r0), .agg (C .u64 i)] (.agg (C .u64 r1))) (hq1 : Ret 23 #[.agg (C .u64 r1), .agg (C .u64 r1)] (.agg (C .u64 q1))) (he1 : Ret 37 #[.agg (C .u64 q1), .agg (C .u64 a)] (.bool b1))
    (hrf : rf = if b0 = true then r0 else r1) (hodd : Ret 28 #[.agg (C .u64 rf)] (.bool od)) (hsub : Ret 35 #[.agg (C .u64 [0, 0, 0, 0, 0]), .agg (C .u64 rf)] (.agg (C .u64 n)))
    (hres : res = if (b0 || b1) = true then (if od = true then n else rf) else [0, 0, 0, 0, 0]) :
    Ret 43 #[.agg (C .u64 a)] (.tuple #[.agg (C .u64 res), .bool (b0 || b1)]) := by
  have go : ∀ rf res b0 b1 od, (if b0 = true then r0 else r1) = rf → Ret 37 #[.agg (C .u64 q0), .agg (C .u64 a)] (.bool b0) → Ret 37 #[.agg (C .u64 q1), .agg (C .u64 a)] (.bool b1) → Ret 28 #[.agg (C .u64 rf)] (.bool od) → Ret 35 #[.agg (C .u64 [0, 0, 0, 0, 0]), .agg (C .u64 rf)] (.agg (C .u64 n)) →
      (if (b0 || b1) = true then (if od = true then n else rf) else [0, 0, 0, 0, 0]) = res → Ret 43 #[.agg (C .u64 a)] (.tuple #[.agg (C .u64 res), .bool (b0 || b1)]) := by
    clear hrf hodd hsub hres he0 he1
    intro rf res b0 b1 od hrf he0 he1 hodd hsub hres
    cases b0 <;> cases b1 <;> cases od <;> simp only [Bool.or_true, Bool.or_false, Bool.true_or, Bool.false_or, if_true, Bool.false_eq_true, if_false] at hrf hres ⊢ <;> subst hrf <;> subst hres
    all_goals
      refine ⟨fun w => ?_⟩
      obtain ⟨W, hW⟩ : ∃ W, W = w := ⟨_, rfl⟩
      have hH := Has.nil W
      rw [← hW]
      clear hW
      go_enter Try.func43, Try.ntmps43
      apply wp_seq_k; intro K1 hK1
      apply wp_region_lit
      refine wl_boxA rfl rfl rfl hH ?_
      clear hH; intro b1 w hH
      simp only [Act.put, List.setIfInBounds_toArray, List.set_cons_zero, List.set_cons_succ]
      refine wl_allocA rfl rfl z31 hH ?_
      clear hH; intro b2 w hH
      simp only [Act.put, List.setIfInBounds_toArray, List.set_cons_zero, List.set_cons_succ]
      go_wp2_with (first | ((first | ((with_reducible show wpList _ _ _ (_ :: _) _ _); first | refine wl_callc rfl rfl (f := 60) rfl (args2 _ _ _) (h6) hH ?_ | (refine wl_allocA rfl rfl z23 hH ?_; clear hH; intro b3 w hH) | refine wl_callc rfl rfl (f := 28) rfl (args1 _ _) (hodd) hH ?_ | refine wl_callc rfl rfl (f := 35) rfl (args2 _ _ _) (hsub) hH ?_ | refine wl_loadC 0 rfl rfl rfl hH rfl ?_ ?_ | refine wl_loadC 1 rfl rfl rfl hH rfl ?_ ?_ | refine wl_loadC 2 rfl rfl rfl hH rfl ?_ ?_ | refine wl_loadC 3 rfl rfl rfl hH rfl ?_ ?_ | refine wl_loadC 4 rfl rfl rfl hH rfl ?_ ?_ | ((with_reducible show wpList _ _ _ (⟨_, Op.store 23 _ _, _, _, _, _⟩ :: _) _ _); first | refine wl_storerowC 0 rfl rfl rfl rfl hH rfl ?_ ?_ ?_ | refine wl_storerowC 1 rfl rfl rfl rfl hH rfl ?_ ?_ ?_ | refine wl_storerowC 2 rfl rfl rfl rfl hH rfl ?_ ?_ ?_ | refine wl_storerowC 3 rfl rfl rfl rfl hH rfl ?_ ?_ ?_ | refine wl_storerowC 4 rfl rfl rfl rfl hH rfl ?_ ?_ ?_) | ((with_reducible show wpList _ _ _ (⟨_, Op.store 31 _ _, _, _, _, _⟩ :: _) _ _); first | refine wl_storerowC 0 rfl rfl rfl rfl hH rfl ?_ ?_ ?_ | refine wl_storerowC 1 rfl rfl rfl rfl hH rfl ?_ ?_ ?_ | refine wl_storerowC 2 rfl rfl rfl rfl hH rfl ?_ ?_ ?_ | refine wl_storerowC 3 rfl rfl rfl rfl hH rfl ?_ ?_ ?_ | refine wl_storerowC 4 rfl rfl rfl rfl hH rfl ?_ ?_ ?_) | refine wl_val rfl (ex_build rfl (b31_0)) ?_ | refine wl_val rfl (ex_build rfl (b31_1 ?_)) ?_ | ((first | refine wl_val rfl (ex_assign rfl rfl) ?_); try simp only [Act.eval, Array.getD_eq_getD_getElem?, List.getElem?_toArray, List.getElem?_cons_succ, List.getElem?_cons_zero, Option.getD_some, Act.put, List.setIfInBounds_toArray, List.set_cons_zero, List.set_cons_succ])) | ((with_reducible show wpD _ _ _ _ _ (_ :: _) _); first | refine wd_call rfl rfl (f := 23) rfl (args2 _ _ _) (hq0) ?_ | refine wd_call rfl rfl (f := 37) rfl (args2 _ _ _) (he0) ?_ | refine wd_call rfl rfl (f := 61) rfl (args0 _) (him) ?_ | refine wd_call rfl rfl (f := 23) rfl (args2 _ _ _) (hm1) ?_ | refine wd_call rfl rfl (f := 23) rfl (args2 _ _ _) (hq1) ?_ | refine wd_call rfl rfl (f := 37) rfl (args2 _ _ _) (he1) ?_ | refine wd_val rfl (ex_not rfl rfl) ?_ | ((with_reducible show wpD _ _ _ _ _ (⟨_, Op.load 23 _, _, _, _, _⟩ :: _) _); first | refine wd_valH rfl (fun w hH => ex_loadC 0 rfl rfl hH rfl ?_) ?_ | refine wd_valH rfl (fun w hH => ex_loadC 1 rfl rfl hH rfl ?_) ?_ | refine wd_valH rfl (fun w hH => ex_loadC 2 rfl rfl hH rfl ?_) ?_ | refine wd_valH rfl (fun w hH => ex_loadC 3 rfl rfl hH rfl ?_) ?_ | refine wd_valH rfl (fun w hH => ex_loadC 4 rfl rfl hH rfl ?_) ?_) | ((with_reducible show wpD _ _ _ _ _ (⟨_, Op.load 31 _, _, _, _, _⟩ :: _) _); first | refine wd_valH rfl (fun w hH => ex_loadC 0 rfl rfl hH rfl ?_) ?_ | refine wd_valH rfl (fun w hH => ex_loadC 1 rfl rfl hH rfl ?_) ?_ | refine wd_valH rfl (fun w hH => ex_loadC 2 rfl rfl hH rfl ?_) ?_ | refine wd_valH rfl (fun w hH => ex_loadC 3 rfl rfl hH rfl ?_) ?_ | refine wd_valH rfl (fun w hH => ex_loadC 4 rfl rfl hH rfl ?_) ?_) | refine wd_skip rfl ?_ | (refine wd_val (v := ?_) rfl ?_ ?_; rotate_left; focus (intro w; go_simp; try with_reducible rfl))) | ((with_reducible show Code.wp _ (Code.region 2 _ true) _ _ _); refine wp_drawM 2 [.agg (C .u64 p), .agg (C .u64 a), .agg (C .u64 r0)] [(C .u64 [0, 0, 0, 0, 0], 31)] (mkv := itV) (mcs := C .u8 k) (mT := 23) (by kernel_rfl) hH ?_) | ((with_reducible show MakerOp _ _ _ _ _ _ _ _ ∧ _); refine ⟨bits_maker rfl rfl rfl (args1 _ _), ?_⟩; intro bm) | ((with_reducible show wpE _ _ _ _ _ _ [] _ _ _); refine we_done ?_; try dsimp only) | ((refine wn_alloc rfl rfl z31 ?_; intro bn; try dsimp only)) | ((with_reducible show wpE _ _ _ _ _ _ (_ :: _) _ _ _); refine we_callD rfl rfl (f := 39) rfl (args2 _ _ _) (HP.out 0 rfl) (by kernel_rfl) ?_) | ((with_reducible show wpE _ _ _ _ _ _ (_ :: _) _ _ _); refine we_valH rfl (fun w hH => ex_loadC 2 rfl rfl hH rfl ?_) ?_) | ((with_reducible show wpE _ _ _ _ _ _ (_ :: _) _ _ _); refine we_callc rfl rfl (f := 23) rfl (args2 _ _ _) (hm) ?_) | ((with_reducible show Code.wp _ (Code.region 3 _ true) _ _ _); refine wp_draw 6 [] (by kernel_rfl) hH ?_) | ((with_reducible show Code.wp _ (Code.region 4 _ true) _ _ _); refine wp_draw 3 [] (by kernel_rfl) hH ?_) | ((with_reducible show Code.wp _ (Code.region 5 _ true) _ _ _); refine wp_draw 6 [] (by kernel_rfl) hH ?_) | ((with_reducible show wpD _ _ _ _ _ _ _); refine wd_done ?_; try dsimp only) | ((with_reducible show wpN _ _ _ _ _ _); refine wn_done ?_; try dsimp only)) <;> (first | ((with_reducible show wpList _ _ _ _ _ _); try simp only [Act.put, List.setIfInBounds_toArray, List.set_cons_zero, List.set_cons_succ]) | ((with_reducible show wpD _ _ _ _ _ _ _); try simp only [Act.put, List.setIfInBounds_toArray, List.set_cons_zero, List.set_cons_succ]) | (with_reducible show wpN _ _ _ _ _ _) | ((with_reducible show wpE _ _ _ _ _ _ _ _ _ _); try simp only [Act.put, List.setIfInBounds_toArray, List.set_cons_zero, List.set_cons_succ]) | (with_reducible show MakerOp _ _ _ _ _ _ _ _ ∧ _) | (with_reducible show Code.wp _ _ _ _ _) | (clear hH; intro w hH; (try simp only [List.nil_append, List.cons_append] at hH); (try simp only [Act.put, List.setIfInBounds_toArray, List.set_cons_zero, List.set_cons_succ] at hH ⊢)) | first | with_reducible assumption | omega | (simp only [List.length_set, List.length_replicate]; omega) | (simp; done) | (simp; omega))) | fail)
      refine ret_cell2 3 rfl rfl hH rfl ?_ rfl rfl ⟨rfl, hH.below⟩
      all_goals (rw [C_size]; first | omega | rfl)
  exact go rf res b0 b1 od hrf.symm he0 he1 hodd hsub hres.symm

theorem root_ex {a : List Nat} {x : Nat} (ha : Lim a x) : ∃ r, Lim r (rootV x) ∧ Ret 43 #[vF a] (.tuple #[vF r, .bool (rootB x)]) := by
  have hk := key32_len ((pP - 5) / 8)
  have hkb := key32_dig ((pP - 5) / 8)
  have lp := pow_key32 (n := (pP - 5) / 8) ha (by decide +kernel)
  obtain ⟨r0, l0, e0⟩ := mul_ex lp ha
  rw [pow_step] at l0
  obtain ⟨q0, lq0, eq0⟩ := mul_ex l0 l0
  obtain ⟨i, li, ei⟩ := imag_ex
  obtain ⟨r1, l1, e1⟩ := mul_ex l0 li
  rw [← rt1] at l1
  obtain ⟨q1, lq1, eq1⟩ := mul_ex l1 l1
  have hrf : Lim (if decide (mulN (rt0 x) (rt0 x) = x) = true then r0 else r1) (rtF x) := by
    unfold rtF
    by_cases h : mulN (rt0 x) (rt0 x) = x
    · simp only [h, decide_true, if_true]; exact l0
    · simp only [h, decide_false, Bool.false_eq_true, if_false]; exact l1
  obtain ⟨n, ln, en⟩ := sub_ex zero_lim hrf
  refine ⟨_, ?_, root_walk ha.len hk lp.len l0.len lq0.len li.len l1.len lq1.len ln.len ⟨@fun _ _ i _ hi => power_has ha hk hkb i hi⟩ less_root e0 eq0 (equal_lim lq0 ha) ei e1 eq1 (equal_lim lq1 ha) rfl (odd_lim hrf) en rfl⟩
  unfold rootV
  by_cases h : rootB x = true
  · have h' := h
    unfold rootB at h'
    rw [if_pos h, if_pos h']
    unfold evN
    by_cases ho : rtF x % 2 = 1
    · simp only [ho, decide_true, if_true]
      rw [subN_zero ho (rtF_lt x)] at ln
      exact ln
    · simp only [ho, decide_false, Bool.false_eq_true, if_false]
      exact hrf
  · have h' := h
    unfold rootB at h'
    rw [if_neg h, if_neg h']
    exact zero_lim
end Go.Proofs.Ytmbbdblmengdhaa
