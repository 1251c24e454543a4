/- Walks of the reference: Root. -/
import Derived.Test.YtmbbdblmengdhaaR8
import Derived.Test.YtmbbdblmengdhaaV13
set_option linter.unusedSimpArgs false
set_option linter.unusedVariables false
namespace Go.Proofs.Ytmbbdblmengdhaa
open Go.RowKit

def rrN (x : Nat) : Nat → Nat
  | 0 => rt0 x
  | k + 1 => mulN (rrN x k) rtI
theorem rrN_lt (x k : Nat) : rrN x k < pP := by
  cases k with
  | zero => exact rt0_lt x
  | succ k => exact mulN_lt _ _
/-- What Root hands back. -/
def rootA (x : Nat) : Value := .tuple #[vR (rootV x), .bool (rootB x)]
theorem rootA_k {x k : Nat} (hk : k < 2) (h : ∀ j, j < k → mulN (rrN x j) (rrN x j) ≠ x) (hq : mulN (rrN x k) (rrN x k) = x) : rootA x = .tuple #[vR (evN (rrN x k)), .bool true] := by
  have hb : rootB x = true := by
    unfold rootB
    rcases (show k = 0 ∨ k = 1 by omega) with rfl | rfl
    · have : mulN (rt0 x) (rt0 x) = x := hq
      simp [this]
    · have : mulN (rt1 x) (rt1 x) = x := hq
      simp [this]
  unfold rootA rootV rtF
  rw [hb, if_pos rfl]
  rcases (show k = 0 ∨ k = 1 by omega) with rfl | rfl
  · have : mulN (rt0 x) (rt0 x) = x := hq
    rw [if_pos this]; rfl
  · have : ¬ mulN (rt0 x) (rt0 x) = x := h 0 (by omega)
    rw [if_neg this]; rfl
theorem rootA_2 {x : Nat} (h : ∀ j, j < 2 → mulN (rrN x j) (rrN x j) ≠ x) : rootA x = .tuple #[.agg (C .i64 [0, 0, 0, 0, 0, 0, 0, 0, 0, 0, 0, 0, 0, 0, 0, 0]), .bool false] := by
  have h0 : ¬ mulN (rt0 x) (rt0 x) = x := h 0 (by omega)
  have h1 : ¬ mulN (rt1 x) (rt1 x) = x := h 1 (by omega)
  have hb : rootB x = false := by unfold rootB; simp [h0, h1]
  unfold rootA rootV
  rw [hb, if_neg (by simp)]
  unfold vR
  rw [D16_0]

theorem half_D16 {n : Nat} (h : halfR (D16 n) 16 = D16 (n / 2)) : Ret 62 #[vR n] (vR (n / 2)) := by
  have := half_any (a := D16 n) (D16_len _) (D16_dig _)
  rw [h] at this
  exact this

set_option maxRecDepth 100000 in
set_option maxHeartbeats 2000000 in
theorem rroot_walk {P E1 E2 E3 M1 M2 M3 I X : List Nat} {V : Value} {R N : Nat → List Nat} {Q : Nat → List Nat} {b od : Nat → Bool} (hP : P.length = 16) (hp0 : P.getD 0 0 < 65536) (hX : X.length = 16) (hI : I.length = 16) (hR : ∀ k, (R k).length = 16) (hQ : ∀ k, (Q k).length = 16) (hN : ∀ k, (N k).length = 16) (hR0 : ∀ k, (R k).getD 0 0 < 65536)
    (h58 : Ret 58 #[] (.agg (C .i64 P)))
    (he1 : Ret 62 #[.agg (C .i64 (P.set 0 (P.getD 0 0 + 3)))] (.agg (C .i64 E1))) (he2 : Ret 62 #[.agg (C .i64 E1)] (.agg (C .i64 E2))) (he3 : Ret 62 #[.agg (C .i64 E2)] (.agg (C .i64 E3))) (hr0 : Ret 40 #[.agg (C .i64 X), .agg (C .i64 E3)] (.agg (C .i64 (R 0))))
    (hm1 : Ret 57 #[.agg (C .i64 P), .agg (C .i64 [1, 0, 0, 0, 0, 0, 0, 0, 0, 0, 0, 0, 0, 0, 0, 0])] (.agg (C .i64 M1))) (hm2 : Ret 62 #[.agg (C .i64 M1)] (.agg (C .i64 M2))) (hm3 : Ret 62 #[.agg (C .i64 M2)] (.agg (C .i64 M3))) (hi : Ret 40 #[.agg (C .i64 [2, 0, 0, 0, 0, 0, 0, 0, 0, 0, 0, 0, 0, 0, 0, 0]), .agg (C .i64 M3)] (.agg (C .i64 I)))
    (HK : Veil (∀ k, k < 2 → Ret 24 #[.agg (C .i64 (R k)), .agg (C .i64 (R k))] (.agg (C .i64 (Q k))) ∧ Ret 24 #[.agg (C .i64 (R k)), .agg (C .i64 I)] (.agg (C .i64 (R (k + 1)))) ∧ Ret 57 #[.agg (C .i64 P), .agg (C .i64 (R k))] (.agg (C .i64 (N k))) ∧
      decide (Q k = X) = b k ∧ decide ((R k).getD 0 0 % 2 = 1) = od k))
    (HV : Veil (∀ k, k < 2 → (∀ j, j < k → b j = false) → b k = true → V = .tuple #[.agg (C .i64 (if od k = true then N k else R k)), .bool true]))
    (HZ : Veil ((∀ j, j < 2 → b j = false) → V = .tuple #[.agg (C .i64 [0, 0, 0, 0, 0, 0, 0, 0, 0, 0, 0, 0, 0, 0, 0, 0]), .bool false])) :
    Ret 44 #[.agg (C .i64 X)] V := by
  have hr0l := hR 0
  have HR : Veil ((∀ k, (R k).length = 16) ∧ (∀ k, (Q k).length = 16) ∧ (∀ k, (N k).length = 16) ∧ (∀ k, (R k).getD 0 0 < 65536)) := ⟨hR, hQ, hN, hR0⟩
  clear hR hQ hN hR0
  generalize hS : R 0 = S0 at hr0 hr0l
  have HS := Lib.hid hS
  clear hS
  refine ⟨fun w => ?_⟩
  obtain ⟨W, hW⟩ : ∃ W, W = w := ⟨_, rfl⟩
  have hH := Has.nil W
  rw [← hW]
  clear hW
  go_enter Try.func44, Try.ntmps44
  apply wp_seq_k; intro K1 hK1
  apply wp_region_lit
  refine wl_boxA rfl rfl rfl hH ?_
  clear hH; intro b1 w hH
  simp only [Act.put, List.setIfInBounds_toArray, List.set_cons_zero, List.set_cons_succ]
  refine wl_allocA rfl rfl z35 hH ?_
  clear hH; intro b2 w hH
  simp only [Act.put, List.setIfInBounds_toArray, List.set_cons_zero, List.set_cons_succ]
  go_wp2_with (first | ((first | ((with_reducible show wpList _ _ _ (_ :: _) _ _); first | (refine wl_allocA rfl rfl z35 hH ?_; clear hH; intro b3 w hH) | refine wl_callc rfl rfl (f := 58) rfl (args0 _) (h58) hH ?_ | refine wl_callc rfl rfl (f := 62) rfl (args1 _ _) (he1) hH ?_ | refine wl_callc rfl rfl (f := 62) rfl (args1 _ _) (he2) hH ?_ | refine wl_callc rfl rfl (f := 62) rfl (args1 _ _) (he3) hH ?_ | refine wl_callc rfl rfl (f := 40) rfl (args2 _ _ _) (hr0) hH ?_ | refine wl_callc rfl rfl (f := 57) rfl (args2 _ _ _) (hm1) hH ?_ | refine wl_callc rfl rfl (f := 62) rfl (args1 _ _) (hm2) hH ?_ | refine wl_callc rfl rfl (f := 62) rfl (args1 _ _) (hm3) hH ?_ | refine wl_callc rfl rfl (f := 40) rfl (args2 _ _ _) (hi) hH ?_ | refine wl_val rfl (ex_add_i64 rfl rfl rfl ?_) ?_ | ((with_reducible show wpList _ _ _ (⟨_, Op.load 3 _, _, _, _, _⟩ :: _) _ _); first | refine wl_load 0 rfl rfl rfl hH rfl (C_get ?_) ?_ | refine wl_load 1 rfl rfl rfl hH rfl (C_get ?_) ?_ | refine wl_load 2 rfl rfl rfl hH rfl (C_get ?_) ?_ | refine wl_load 3 rfl rfl rfl hH rfl (C_get ?_) ?_ | refine wl_load 4 rfl rfl rfl hH rfl (C_get ?_) ?_) | ((with_reducible show wpList _ _ _ (⟨_, Op.load 35 _, _, _, _, _⟩ :: _) _ _); first | refine wl_loadC 0 rfl rfl rfl hH rfl ?_ ?_ | refine wl_loadC 1 rfl rfl rfl hH rfl ?_ ?_ | refine wl_loadC 2 rfl rfl rfl hH rfl ?_ ?_ | refine wl_loadC 3 rfl rfl rfl hH rfl ?_ ?_ | refine wl_loadC 4 rfl rfl rfl hH rfl ?_ ?_) | ((with_reducible show wpList _ _ _ (⟨_, Op.store 3 _ _, _, _, _, _⟩ :: _) _ _); first | refine wl_storeC 0 rfl rfl rfl rfl hH rfl ?_ ?_ | refine wl_storeC 1 rfl rfl rfl rfl hH rfl ?_ ?_ | refine wl_storeC 2 rfl rfl rfl rfl hH rfl ?_ ?_ | refine wl_storeC 3 rfl rfl rfl rfl hH rfl ?_ ?_ | refine wl_storeC 4 rfl rfl rfl rfl hH rfl ?_ ?_) | ((with_reducible show wpList _ _ _ (⟨_, Op.store 35 _ _, _, _, _, _⟩ :: _) _ _); first | refine wl_storerowC 0 rfl rfl rfl rfl hH rfl ?_ ?_ ?_ | refine wl_storerowC 1 rfl rfl rfl rfl hH rfl ?_ ?_ ?_ | refine wl_storerowC 2 rfl rfl rfl rfl hH rfl ?_ ?_ ?_ | refine wl_storerowC 3 rfl rfl rfl rfl hH rfl ?_ ?_ ?_ | refine wl_storerowC 4 rfl rfl rfl rfl hH rfl ?_ ?_ ?_) | refine wl_val rfl (ex_build rfl (b35_0)) ?_ | refine wl_val rfl (ex_build rfl (b35_1 _)) ?_ | refine wl_val rfl (ex_build rfl (b35_16 _ _ _ _ _ _ _ _ _ _ _ _ _ _ _ _)) ?_ | refine wl_val rfl (ex_ixaddr1 rfl rfl rfl ?_) ?_ | ((first | refine wl_val rfl (ex_move rfl rfl) ?_ | refine wl_val rfl (ex_assign rfl rfl) ?_); try simp only [Act.eval, Array.getD_eq_getD_getElem?, List.getElem?_toArray, List.getElem?_cons_succ, List.getElem?_cons_zero, Option.getD_some, Act.put, List.setIfInBounds_toArray, List.set_cons_zero, List.set_cons_succ])) | ((with_reducible show wpD _ _ _ _ _ (_ :: _) _); first | refine wd_call rfl rfl (f := 58) rfl (args0 _) (h58) ?_ | refine wd_call rfl rfl (f := 62) rfl (args1 _ _) (he1) ?_ | refine wd_call rfl rfl (f := 62) rfl (args1 _ _) (he2) ?_ | refine wd_call rfl rfl (f := 62) rfl (args1 _ _) (he3) ?_ | refine wd_call rfl rfl (f := 40) rfl (args2 _ _ _) (hr0) ?_ | refine wd_call rfl rfl (f := 57) rfl (args2 _ _ _) (hm1) ?_ | refine wd_call rfl rfl (f := 62) rfl (args1 _ _) (hm2) ?_ | refine wd_call rfl rfl (f := 62) rfl (args1 _ _) (hm3) ?_ | refine wd_call rfl rfl (f := 40) rfl (args2 _ _ _) (hi) ?_ | refine wd_valH rfl (fun w hH => ex_loadC 0 rfl rfl hH rfl ?_) ?_ | refine wd_valH rfl (fun w hH => ex_loadC 1 rfl rfl hH rfl ?_) ?_ | refine wd_valH rfl (fun w hH => ex_loadC 2 rfl rfl hH rfl ?_) ?_ | refine wd_valH rfl (fun w hH => ex_loadC 3 rfl rfl hH rfl ?_) ?_ | refine wd_valH rfl (fun w hH => ex_loadC 4 rfl rfl hH rfl ?_) ?_ | refine wd_skip rfl ?_ | (refine wd_val (v := ?_) rfl ?_ ?_; rotate_left; focus (intro w; go_simp; try with_reducible rfl))) | ((with_reducible show Code.wp _ (Code.region 3 _ true) _ _ _); refine wp_draw 6 [(C .i64 (List.replicate 16 0), 35)] (by kernel_rfl) hH ?_) | ((refine wn_alloc rfl rfl z35 ?_; intro bn; try dsimp only)) | ((with_reducible show wpD _ _ _ _ _ _ _); refine wd_done ?_; try dsimp only) | ((with_reducible show wpN _ _ _ _ _ _); refine wn_done ?_; try dsimp only)) <;> (first | ((with_reducible show wpList _ _ _ _ _ _); try simp only [Act.put, List.setIfInBounds_toArray, List.set_cons_zero, List.set_cons_succ]) | ((with_reducible show wpD _ _ _ _ _ _ _); try simp only [Act.put, List.setIfInBounds_toArray, List.set_cons_zero, List.set_cons_succ]) | (with_reducible show wpN _ _ _ _ _ _) | (with_reducible show Code.wp _ _ _ _ _) | (clear hH; intro w hH; (try simp only [List.nil_append, List.cons_append] at hH); (try simp only [Act.put, List.setIfInBounds_toArray, List.set_cons_zero, List.set_cons_succ] at hH ⊢)) | first | with_reducible assumption | omega | (simp only [List.length_set, List.length_replicate]; omega) | (simp; done) | (simp; omega))) | fail)
  clear he1 he2 he3 hr0 hm1 hm2 hm3 hi
  go_loopw [7] (fun t wr => ∃ k c3 : Nat, k ≤ 2 ∧ t = .int .i64 k ∧ Veil (∀ j, j < k → b j = false) ∧ Has W wr [(b3, C .i64 I, 35), (bn, C .i64 (R k), 35), (c3, C .i64 (P.set 0 (P.getD 0 0 + 3)), 35), (b2, C .i64 (List.replicate 16 0), 35), (b1, C .i64 X, 35)]) (fun t _ => 2 - (intOf t).toNat)
  case atStart => exact ⟨0, _, by omega, rfl, ⟨fun j hj => by omega⟩, by rw [HS.out]; exact hH⟩
  case round =>
    clear hH HS hr0l
    obtain ⟨k, c3, hk, rfl, HB, hH⟩ := hrel
    by_cases hlt : k < 2
    · obtain ⟨k1, k2, k3, k4, k5⟩ := HK.out k hlt
      have HV1 : Veil (b k = true → V = .tuple #[.agg (C .i64 (if od k = true then N k else R k)), .bool true]) := ⟨fun h => HV.out k hlt HB.out h⟩
      have HB1 : Veil (b k = false → ∀ j, j < k + 1 → b j = false) := ⟨fun h j hj => by
        rcases (show j < k ∨ j = k by omega) with h1 | h1
        · exact HB.out j h1
        · rw [h1]; exact h⟩
      obtain ⟨hR, hQ, hN, hR0⟩ := HR.out
      have l1 := hR k
      have l2 := hR (k + 1)
      have l3 := hQ k
      have l4 := hN k
      have l5 := hR0 k
      clear hR hQ hN hR0 HV HZ HB HR HK
      generalize P.set 0 (P.getD 0 0 + 3) = PP at hH
      have HRN : Veil (R (k + 1) = R (k + 1)) := ⟨rfl⟩
      generalize hRk : R k = S at *
      generalize hRn : R (k + 1) = T at *
      generalize Q k = U at *
      generalize N k = Y at *
      generalize b k = bb at *
      generalize od k = oo at *
      have K4 := Lib.hid k4
      have K5 := Lib.hid k5
      have HT := Lib.hid hRn
      clear k4 k5 hRk hRn HRN
      cases bb with
      | false =>
        have HF := HB1.out rfl
        have HFF := Lib.hid HF
        clear HF HB1 HV1
        go_wp2_with (first | ((first | ((with_reducible show wpList _ _ _ (_ :: _) _ _); first | refine wl_callc rfl rfl (f := 24) rfl (args2 _ _ _) (k1) hH ?_ | refine wl_callc rfl rfl (f := 24) rfl (args2 _ _ _) (k2) hH ?_ | refine wl_callc rfl rfl (f := 57) rfl (args2 _ _ _) (k3) hH ?_ | refine wl_callc rfl rfl (f := 58) rfl (args0 _) (h58) hH ?_ | refine wl_val rfl (ex_eqV rfl rfl rfl K5.out) ?_ | refine wl_val rfl (ex_add_i64 rfl rfl rfl ?_) ?_ | ((with_reducible show wpList _ _ _ (⟨_, Op.load 3 _, _, _, _, _⟩ :: _) _ _); first | refine wl_load 0 rfl rfl rfl hH rfl (C_get ?_) ?_ | refine wl_load 1 rfl rfl rfl hH rfl (C_get ?_) ?_ | refine wl_load 2 rfl rfl rfl hH rfl (C_get ?_) ?_ | refine wl_load 3 rfl rfl rfl hH rfl (C_get ?_) ?_ | refine wl_load 4 rfl rfl rfl hH rfl (C_get ?_) ?_) | ((with_reducible show wpList _ _ _ (⟨_, Op.load 35 _, _, _, _, _⟩ :: _) _ _); first | refine wl_loadC 0 rfl rfl rfl hH rfl ?_ ?_ | refine wl_loadC 1 rfl rfl rfl hH rfl ?_ ?_ | refine wl_loadC 2 rfl rfl rfl hH rfl ?_ ?_ | refine wl_loadC 3 rfl rfl rfl hH rfl ?_ ?_ | refine wl_loadC 4 rfl rfl rfl hH rfl ?_ ?_) | ((with_reducible show wpList _ _ _ (⟨_, Op.store 3 _ _, _, _, _, _⟩ :: _) _ _); first | refine wl_storeC 0 rfl rfl rfl rfl hH rfl ?_ ?_ | refine wl_storeC 1 rfl rfl rfl rfl hH rfl ?_ ?_ | refine wl_storeC 2 rfl rfl rfl rfl hH rfl ?_ ?_ | refine wl_storeC 3 rfl rfl rfl rfl hH rfl ?_ ?_ | refine wl_storeC 4 rfl rfl rfl rfl hH rfl ?_ ?_) | ((with_reducible show wpList _ _ _ (⟨_, Op.store 35 _ _, _, _, _, _⟩ :: _) _ _); first | refine wl_storerowC 0 rfl rfl rfl rfl hH rfl ?_ ?_ ?_ | refine wl_storerowC 1 rfl rfl rfl rfl hH rfl ?_ ?_ ?_ | refine wl_storerowC 2 rfl rfl rfl rfl hH rfl ?_ ?_ ?_ | refine wl_storerowC 3 rfl rfl rfl rfl hH rfl ?_ ?_ ?_ | refine wl_storerowC 4 rfl rfl rfl rfl hH rfl ?_ ?_ ?_) | refine wl_val rfl (ex_build rfl (b35_0)) ?_ | refine wl_val rfl (ex_build rfl (b35_1 _)) ?_ | refine wl_val rfl (ex_build rfl (b35_16 _ _ _ _ _ _ _ _ _ _ _ _ _ _ _ _)) ?_ | refine wl_val rfl (ex_ixaddr1 rfl rfl rfl ?_) ?_ | ((first | refine wl_val rfl (ex_move rfl rfl) ?_ | refine wl_val rfl (ex_assign rfl rfl) ?_); try simp only [Act.eval, Array.getD_eq_getD_getElem?, List.getElem?_toArray, List.getElem?_cons_succ, List.getElem?_cons_zero, Option.getD_some, Act.put, List.setIfInBounds_toArray, List.set_cons_zero, List.set_cons_succ])) | ((with_reducible show wpD _ _ _ _ _ (_ :: _) _); first | refine wd_call rfl rfl (f := 24) rfl (args2 _ _ _) (k1) ?_ | refine wd_call rfl rfl (f := 24) rfl (args2 _ _ _) (k2) ?_ | refine wd_call rfl rfl (f := 57) rfl (args2 _ _ _) (k3) ?_ | refine wd_call rfl rfl (f := 58) rfl (args0 _) (h58) ?_ | refine wd_val rfl (ex_eqlV rfl rfl rfl ?_ ?_ K4.out) ?_ | refine wd_valH rfl (fun w hH => ex_loadC 0 rfl rfl hH rfl ?_) ?_ | refine wd_valH rfl (fun w hH => ex_loadC 1 rfl rfl hH rfl ?_) ?_ | refine wd_valH rfl (fun w hH => ex_loadC 2 rfl rfl hH rfl ?_) ?_ | refine wd_valH rfl (fun w hH => ex_loadC 3 rfl rfl hH rfl ?_) ?_ | refine wd_valH rfl (fun w hH => ex_loadC 4 rfl rfl hH rfl ?_) ?_ | refine wd_skip rfl ?_ | (refine wd_val (v := ?_) rfl ?_ ?_; rotate_left; focus (intro w; go_simp; try with_reducible rfl))) | ((with_reducible show Code.wp _ (Code.region 8 _ true) _ _ _); refine wp_draw 5 [] (by kernel_rfl) hH ?_) | ((with_reducible show Code.wp _ (Code.region 10 _ true) _ _ _); refine wp_draw 3 [] (by kernel_rfl) hH ?_) | ((with_reducible show wpD _ _ _ _ _ _ _); refine wd_done ?_; try dsimp only) | ((with_reducible show wpN _ _ _ _ _ _); refine wn_done ?_; try dsimp only)) <;> (first | ((with_reducible show wpList _ _ _ _ _ _); try simp only [Act.put, List.setIfInBounds_toArray, List.set_cons_zero, List.set_cons_succ]) | ((with_reducible show wpD _ _ _ _ _ _ _); try simp only [Act.put, List.setIfInBounds_toArray, List.set_cons_zero, List.set_cons_succ]) | (with_reducible show wpN _ _ _ _ _ _) | (with_reducible show Code.wp _ _ _ _ _) | (clear hH; intro w hH; (try simp only [List.nil_append, List.cons_append] at hH); (try simp only [Act.put, List.setIfInBounds_toArray, List.set_cons_zero, List.set_cons_succ] at hH ⊢)) | first | with_reducible assumption | omega | (simp only [List.length_set, List.length_replicate]; omega) | (simp; done) | (simp; omega))) | fail)
        refine ⟨⟨k + 1, c3, by omega, by first | rfl | go_num, ⟨HFF.out⟩, ?_⟩, by simp [intOf] <;> omega⟩
        rw [HT.out]; exact hH
      | true =>
        have HVV := HV1.out rfl
        clear HB1 HV1
        cases oo with
        | true =>
          rw [if_pos rfl] at HVV
          have HV2 := Lib.hid HVV
          clear HVV
          go_wp2_with (first | ((first | ((with_reducible show wpList _ _ _ (_ :: _) _ _); first | refine wl_callc rfl rfl (f := 24) rfl (args2 _ _ _) (k1) hH ?_ | refine wl_callc rfl rfl (f := 24) rfl (args2 _ _ _) (k2) hH ?_ | refine wl_callc rfl rfl (f := 57) rfl (args2 _ _ _) (k3) hH ?_ | refine wl_callc rfl rfl (f := 58) rfl (args0 _) (h58) hH ?_ | refine wl_val rfl (ex_rem_i64 rfl rfl rfl ?_) ?_ | refine wl_val rfl (ex_eqV rfl rfl rfl K5.out) ?_ | refine wl_val rfl (ex_add_i64 rfl rfl rfl ?_) ?_ | ((with_reducible show wpList _ _ _ (⟨_, Op.load 3 _, _, _, _, _⟩ :: _) _ _); first | refine wl_load 0 rfl rfl rfl hH rfl (C_get ?_) ?_ | refine wl_load 1 rfl rfl rfl hH rfl (C_get ?_) ?_ | refine wl_load 2 rfl rfl rfl hH rfl (C_get ?_) ?_ | refine wl_load 3 rfl rfl rfl hH rfl (C_get ?_) ?_ | refine wl_load 4 rfl rfl rfl hH rfl (C_get ?_) ?_) | ((with_reducible show wpList _ _ _ (⟨_, Op.load 35 _, _, _, _, _⟩ :: _) _ _); first | refine wl_loadC 0 rfl rfl rfl hH rfl ?_ ?_ | refine wl_loadC 1 rfl rfl rfl hH rfl ?_ ?_ | refine wl_loadC 2 rfl rfl rfl hH rfl ?_ ?_ | refine wl_loadC 3 rfl rfl rfl hH rfl ?_ ?_ | refine wl_loadC 4 rfl rfl rfl hH rfl ?_ ?_) | ((with_reducible show wpList _ _ _ (⟨_, Op.store 3 _ _, _, _, _, _⟩ :: _) _ _); first | refine wl_storeC 0 rfl rfl rfl rfl hH rfl ?_ ?_ | refine wl_storeC 1 rfl rfl rfl rfl hH rfl ?_ ?_ | refine wl_storeC 2 rfl rfl rfl rfl hH rfl ?_ ?_ | refine wl_storeC 3 rfl rfl rfl rfl hH rfl ?_ ?_ | refine wl_storeC 4 rfl rfl rfl rfl hH rfl ?_ ?_) | ((with_reducible show wpList _ _ _ (⟨_, Op.store 35 _ _, _, _, _, _⟩ :: _) _ _); first | refine wl_storerowC 0 rfl rfl rfl rfl hH rfl ?_ ?_ ?_ | refine wl_storerowC 1 rfl rfl rfl rfl hH rfl ?_ ?_ ?_ | refine wl_storerowC 2 rfl rfl rfl rfl hH rfl ?_ ?_ ?_ | refine wl_storerowC 3 rfl rfl rfl rfl hH rfl ?_ ?_ ?_ | refine wl_storerowC 4 rfl rfl rfl rfl hH rfl ?_ ?_ ?_) | refine wl_val rfl (ex_build rfl (b35_0)) ?_ | refine wl_val rfl (ex_build rfl (b35_1 _)) ?_ | refine wl_val rfl (ex_build rfl (b35_16 _ _ _ _ _ _ _ _ _ _ _ _ _ _ _ _)) ?_ | refine wl_val rfl (ex_ixaddr1 rfl rfl rfl ?_) ?_ | ((first | refine wl_val rfl (ex_move rfl rfl) ?_ | refine wl_val rfl (ex_assign rfl rfl) ?_); try simp only [Act.eval, Array.getD_eq_getD_getElem?, List.getElem?_toArray, List.getElem?_cons_succ, List.getElem?_cons_zero, Option.getD_some, Act.put, List.setIfInBounds_toArray, List.set_cons_zero, List.set_cons_succ])) | ((with_reducible show wpD _ _ _ _ _ (_ :: _) _); first | refine wd_call rfl rfl (f := 24) rfl (args2 _ _ _) (k1) ?_ | refine wd_call rfl rfl (f := 24) rfl (args2 _ _ _) (k2) ?_ | refine wd_call rfl rfl (f := 57) rfl (args2 _ _ _) (k3) ?_ | refine wd_call rfl rfl (f := 58) rfl (args0 _) (h58) ?_ | refine wd_val rfl (ex_eqlV rfl rfl rfl ?_ ?_ K4.out) ?_ | refine wd_valH rfl (fun w hH => ex_loadC 0 rfl rfl hH rfl ?_) ?_ | refine wd_valH rfl (fun w hH => ex_loadC 1 rfl rfl hH rfl ?_) ?_ | refine wd_valH rfl (fun w hH => ex_loadC 2 rfl rfl hH rfl ?_) ?_ | refine wd_valH rfl (fun w hH => ex_loadC 3 rfl rfl hH rfl ?_) ?_ | refine wd_valH rfl (fun w hH => ex_loadC 4 rfl rfl hH rfl ?_) ?_ | refine wd_skip rfl ?_ | (refine wd_val (v := ?_) rfl ?_ ?_; rotate_left; focus (intro w; go_simp; try with_reducible rfl))) | ((with_reducible show Code.wp _ (Code.region 8 _ true) _ _ _); refine wp_draw 5 [] (by kernel_rfl) hH ?_) | ((with_reducible show Code.wp _ (Code.region 10 _ true) _ _ _); refine wp_draw 3 [] (by kernel_rfl) hH ?_) | ((with_reducible show wpD _ _ _ _ _ _ _); refine wd_done ?_; try dsimp only) | ((with_reducible show wpN _ _ _ _ _ _); refine wn_done ?_; try dsimp only)) <;> (first | ((with_reducible show wpList _ _ _ _ _ _); try simp only [Act.put, List.setIfInBounds_toArray, List.set_cons_zero, List.set_cons_succ]) | ((with_reducible show wpD _ _ _ _ _ _ _); try simp only [Act.put, List.setIfInBounds_toArray, List.set_cons_zero, List.set_cons_succ]) | (with_reducible show wpN _ _ _ _ _ _) | (with_reducible show Code.wp _ _ _ _ _) | (clear hH; intro w hH; (try simp only [List.nil_append, List.cons_append] at hH); (try simp only [Act.put, List.setIfInBounds_toArray, List.set_cons_zero, List.set_cons_succ] at hH ⊢)) | first | with_reducible assumption | omega | (simp only [List.length_set, List.length_replicate]; omega) | (simp; done) | (simp; omega))) | fail)
          refine ret_cell2 3 rfl rfl hH rfl ?_ rfl rfl ⟨by rw [HV2.out]; rfl, hH.below⟩
          rw [C_size]; omega
        | false =>
          rw [if_neg (by simp)] at HVV
          have HV2 := Lib.hid HVV
          clear HVV
          go_wp2_with (first | ((first | ((with_reducible show wpList _ _ _ (_ :: _) _ _); first | refine wl_callc rfl rfl (f := 24) rfl (args2 _ _ _) (k1) hH ?_ | refine wl_callc rfl rfl (f := 24) rfl (args2 _ _ _) (k2) hH ?_ | refine wl_callc rfl rfl (f := 57) rfl (args2 _ _ _) (k3) hH ?_ | refine wl_callc rfl rfl (f := 58) rfl (args0 _) (h58) hH ?_ | refine wl_val rfl (ex_rem_i64 rfl rfl rfl ?_) ?_ | refine wl_val rfl (ex_eqV rfl rfl rfl K5.out) ?_ | refine wl_val rfl (ex_add_i64 rfl rfl rfl ?_) ?_ | ((with_reducible show wpList _ _ _ (⟨_, Op.load 3 _, _, _, _, _⟩ :: _) _ _); first | refine wl_load 0 rfl rfl rfl hH rfl (C_get ?_) ?_ | refine wl_load 1 rfl rfl rfl hH rfl (C_get ?_) ?_ | refine wl_load 2 rfl rfl rfl hH rfl (C_get ?_) ?_ | refine wl_load 3 rfl rfl rfl hH rfl (C_get ?_) ?_ | refine wl_load 4 rfl rfl rfl hH rfl (C_get ?_) ?_) | ((with_reducible show wpList _ _ _ (⟨_, Op.load 35 _, _, _, _, _⟩ :: _) _ _); first | refine wl_loadC 0 rfl rfl rfl hH rfl ?_ ?_ | refine wl_loadC 1 rfl rfl rfl hH rfl ?_ ?_ | refine wl_loadC 2 rfl rfl rfl hH rfl ?_ ?_ | refine wl_loadC 3 rfl rfl rfl hH rfl ?_ ?_ | refine wl_loadC 4 rfl rfl rfl hH rfl ?_ ?_) | ((with_reducible show wpList _ _ _ (⟨_, Op.store 3 _ _, _, _, _, _⟩ :: _) _ _); first | refine wl_storeC 0 rfl rfl rfl rfl hH rfl ?_ ?_ | refine wl_storeC 1 rfl rfl rfl rfl hH rfl ?_ ?_ | refine wl_storeC 2 rfl rfl rfl rfl hH rfl ?_ ?_ | refine wl_storeC 3 rfl rfl rfl rfl hH rfl ?_ ?_ | refine wl_storeC 4 rfl rfl rfl rfl hH rfl ?_ ?_) | ((with_reducible show wpList _ _ _ (⟨_, Op.store 35 _ _, _, _, _, _⟩ :: _) _ _); first | refine wl_storerowC 0 rfl rfl rfl rfl hH rfl ?_ ?_ ?_ | refine wl_storerowC 1 rfl rfl rfl rfl hH rfl ?_ ?_ ?_ | refine wl_storerowC 2 rfl rfl rfl rfl hH rfl ?_ ?_ ?_ | refine wl_storerowC 3 rfl rfl rfl rfl hH rfl ?_ ?_ ?_ | refine wl_storerowC 4 rfl rfl rfl rfl hH rfl ?_ ?_ ?_) | refine wl_val rfl (ex_build rfl (b35_0)) ?_ | refine wl_val rfl (ex_build rfl (b35_1 _)) ?_ | refine wl_val rfl (ex_build rfl (b35_16 _ _ _ _ _ _ _ _ _ _ _ _ _ _ _ _)) ?_ | refine wl_val rfl (ex_ixaddr1 rfl rfl rfl ?_) ?_ | ((first | refine wl_val rfl (ex_move rfl rfl) ?_ | refine wl_val rfl (ex_assign rfl rfl) ?_); try simp only [Act.eval, Array.getD_eq_getD_getElem?, List.getElem?_toArray, List.getElem?_cons_succ, List.getElem?_cons_zero, Option.getD_some, Act.put, List.setIfInBounds_toArray, List.set_cons_zero, List.set_cons_succ])) | ((with_reducible show wpD _ _ _ _ _ (_ :: _) _); first | refine wd_call rfl rfl (f := 24) rfl (args2 _ _ _) (k1) ?_ | refine wd_call rfl rfl (f := 24) rfl (args2 _ _ _) (k2) ?_ | refine wd_call rfl rfl (f := 57) rfl (args2 _ _ _) (k3) ?_ | refine wd_call rfl rfl (f := 58) rfl (args0 _) (h58) ?_ | refine wd_val rfl (ex_eqlV rfl rfl rfl ?_ ?_ K4.out) ?_ | refine wd_valH rfl (fun w hH => ex_loadC 0 rfl rfl hH rfl ?_) ?_ | refine wd_valH rfl (fun w hH => ex_loadC 1 rfl rfl hH rfl ?_) ?_ | refine wd_valH rfl (fun w hH => ex_loadC 2 rfl rfl hH rfl ?_) ?_ | refine wd_valH rfl (fun w hH => ex_loadC 3 rfl rfl hH rfl ?_) ?_ | refine wd_valH rfl (fun w hH => ex_loadC 4 rfl rfl hH rfl ?_) ?_ | refine wd_skip rfl ?_ | (refine wd_val (v := ?_) rfl ?_ ?_; rotate_left; focus (intro w; go_simp; try with_reducible rfl))) | ((with_reducible show Code.wp _ (Code.region 8 _ true) _ _ _); refine wp_draw 5 [] (by kernel_rfl) hH ?_) | ((with_reducible show Code.wp _ (Code.region 10 _ true) _ _ _); refine wp_draw 3 [] (by kernel_rfl) hH ?_) | ((with_reducible show wpD _ _ _ _ _ _ _); refine wd_done ?_; try dsimp only) | ((with_reducible show wpN _ _ _ _ _ _); refine wn_done ?_; try dsimp only)) <;> (first | ((with_reducible show wpList _ _ _ _ _ _); try simp only [Act.put, List.setIfInBounds_toArray, List.set_cons_zero, List.set_cons_succ]) | ((with_reducible show wpD _ _ _ _ _ _ _); try simp only [Act.put, List.setIfInBounds_toArray, List.set_cons_zero, List.set_cons_succ]) | (with_reducible show wpN _ _ _ _ _ _) | (with_reducible show Code.wp _ _ _ _ _) | (clear hH; intro w hH; (try simp only [List.nil_append, List.cons_append] at hH); (try simp only [Act.put, List.setIfInBounds_toArray, List.set_cons_zero, List.set_cons_succ] at hH ⊢)) | first | with_reducible assumption | omega | (simp only [List.length_set, List.length_replicate]; omega) | (simp; done) | (simp; omega))) | fail)
          refine ret_cell2 3 rfl rfl hH rfl ?_ rfl rfl ⟨by rw [HV2.out]; rfl, hH.below⟩
          rw [C_size]; omega
    · obtain rfl : k = 2 := by omega
      have HZ2 := Lib.hid (HZ.out HB.out)
      obtain ⟨hR, hQ, hN, hR0⟩ := HR.out
      have l1 := hR 2
      clear hR hQ hN hR0 HV HZ HB HR HK
      generalize P.set 0 (P.getD 0 0 + 3) = PP at hH
      generalize R 2 = S at *
      go_wp2_with (first | ((first | ((with_reducible show wpList _ _ _ (_ :: _) _ _); first | ((with_reducible show wpList _ _ _ (⟨_, Op.load 3 _, _, _, _, _⟩ :: _) _ _); first | refine wl_load 0 rfl rfl rfl hH rfl (C_get ?_) ?_ | refine wl_load 1 rfl rfl rfl hH rfl (C_get ?_) ?_ | refine wl_load 2 rfl rfl rfl hH rfl (C_get ?_) ?_ | refine wl_load 3 rfl rfl rfl hH rfl (C_get ?_) ?_ | refine wl_load 4 rfl rfl rfl hH rfl (C_get ?_) ?_) | ((with_reducible show wpList _ _ _ (⟨_, Op.load 35 _, _, _, _, _⟩ :: _) _ _); first | refine wl_loadC 0 rfl rfl rfl hH rfl ?_ ?_ | refine wl_loadC 1 rfl rfl rfl hH rfl ?_ ?_ | refine wl_loadC 2 rfl rfl rfl hH rfl ?_ ?_ | refine wl_loadC 3 rfl rfl rfl hH rfl ?_ ?_ | refine wl_loadC 4 rfl rfl rfl hH rfl ?_ ?_) | ((with_reducible show wpList _ _ _ (⟨_, Op.store 3 _ _, _, _, _, _⟩ :: _) _ _); first | refine wl_storeC 0 rfl rfl rfl rfl hH rfl ?_ ?_ | refine wl_storeC 1 rfl rfl rfl rfl hH rfl ?_ ?_ | refine wl_storeC 2 rfl rfl rfl rfl hH rfl ?_ ?_ | refine wl_storeC 3 rfl rfl rfl rfl hH rfl ?_ ?_ | refine wl_storeC 4 rfl rfl rfl rfl hH rfl ?_ ?_) | ((with_reducible show wpList _ _ _ (⟨_, Op.store 35 _ _, _, _, _, _⟩ :: _) _ _); first | refine wl_storerowC 0 rfl rfl rfl rfl hH rfl ?_ ?_ ?_ | refine wl_storerowC 1 rfl rfl rfl rfl hH rfl ?_ ?_ ?_ | refine wl_storerowC 2 rfl rfl rfl rfl hH rfl ?_ ?_ ?_ | refine wl_storerowC 3 rfl rfl rfl rfl hH rfl ?_ ?_ ?_ | refine wl_storerowC 4 rfl rfl rfl rfl hH rfl ?_ ?_ ?_) | refine wl_val rfl (ex_build rfl (b35_0)) ?_ | refine wl_val rfl (ex_build rfl (b35_1 _)) ?_ | refine wl_val rfl (ex_build rfl (b35_16 _ _ _ _ _ _ _ _ _ _ _ _ _ _ _ _)) ?_ | refine wl_val rfl (ex_ixaddr1 rfl rfl rfl ?_) ?_ | ((first | refine wl_val rfl (ex_move rfl rfl) ?_ | refine wl_val rfl (ex_assign rfl rfl) ?_); try simp only [Act.eval, Array.getD_eq_getD_getElem?, List.getElem?_toArray, List.getElem?_cons_succ, List.getElem?_cons_zero, Option.getD_some, Act.put, List.setIfInBounds_toArray, List.set_cons_zero, List.set_cons_succ])) | ((with_reducible show wpD _ _ _ _ _ (_ :: _) _); first | refine wd_valH rfl (fun w hH => ex_loadC 0 rfl rfl hH rfl ?_) ?_ | refine wd_valH rfl (fun w hH => ex_loadC 1 rfl rfl hH rfl ?_) ?_ | refine wd_valH rfl (fun w hH => ex_loadC 2 rfl rfl hH rfl ?_) ?_ | refine wd_valH rfl (fun w hH => ex_loadC 3 rfl rfl hH rfl ?_) ?_ | refine wd_valH rfl (fun w hH => ex_loadC 4 rfl rfl hH rfl ?_) ?_ | refine wd_skip rfl ?_ | (refine wd_val (v := ?_) rfl ?_ ?_; rotate_left; focus (intro w; go_simp; try with_reducible rfl))) | ((with_reducible show wpD _ _ _ _ _ _ _); refine wd_done ?_; try dsimp only) | ((with_reducible show wpN _ _ _ _ _ _); refine wn_done ?_; try dsimp only)) <;> (first | ((with_reducible show wpList _ _ _ _ _ _); try simp only [Act.put, List.setIfInBounds_toArray, List.set_cons_zero, List.set_cons_succ]) | ((with_reducible show wpD _ _ _ _ _ _ _); try simp only [Act.put, List.setIfInBounds_toArray, List.set_cons_zero, List.set_cons_succ]) | (with_reducible show wpN _ _ _ _ _ _) | (with_reducible show Code.wp _ _ _ _ _) | (clear hH; intro w hH; (try simp only [List.nil_append, List.cons_append] at hH); (try simp only [Act.put, List.setIfInBounds_toArray, List.set_cons_zero, List.set_cons_succ] at hH ⊢)) | first | with_reducible assumption | omega | (simp only [List.length_set, List.length_replicate]; omega) | (simp; done) | (simp; omega))) | fail)
      refine ret_cell2 3 rfl rfl hH rfl ?_ rfl rfl ⟨by rw [HZ2.out]; rfl, hH.below⟩
      rfl

theorem rroot_any {x : Nat} (hx : x < pP) : Ret 44 #[vR x] (rootA x) := by
  have hdec : ∀ k, decide (D16 (mulN (rrN x k) (rrN x k)) = D16 x) = decide (mulN (rrN x k) (rrN x k) = x) := fun k => decide_eq_decide.2 ⟨fun e => D16_inj (by have := mulN_lt (rrN x k) (rrN x k); omega) (by omega) e, fun e => by rw [e]⟩
  have hod : ∀ k, decide ((D16 (rrN x k)).getD 0 0 % 2 = 1) = decide (rrN x k % 2 = 1) := fun k => by
    have e : (D16 (rrN x k)).getD 0 0 = rrN x k / 65536 ^ 0 % 65536 := digs_getD 65536 16 _ 0 (by omega)
    rw [e, Nat.pow_zero, Nat.div_one]
    congr 1
    rw [Nat.mod_mod_of_dvd _ (by decide)]
  have h58 := prime_any
  rw [← D16_p] at h58
  have m1 : Ret 57 #[vR pP, vR 1] (vR (pP - 1)) := by
    have h1 := minus_any (a := primeL) (b := D16 1) rfl (D16_len _) primeL_dig (D16_dig _)
    rw [prime_minus (by decide +kernel), ← D16_p] at h1
    exact h1
  have mk : ∀ r, r < pP → Ret 57 #[vR pP, vR r] (vR (pP - r)) := fun r hr => by
    have h1 := minus_any (a := primeL) (b := D16 r) rfl (D16_len _) primeL_dig (D16_dig _)
    rw [prime_minus (by omega), ← D16_p] at h1
    exact h1
  have e1 : (D16 pP).set 0 ((D16 pP).getD 0 0 + 3) = D16 (pP + 3) := by decide +kernel
  have hh1 : Ret 62 #[.agg (C .i64 ((D16 pP).set 0 ((D16 pP).getD 0 0 + 3)))] (vR ((pP + 3) / 2)) := by
    rw [e1]; exact half_D16 (by decide +kernel)
  have hh2 : Ret 62 #[vR ((pP + 3) / 2)] (vR ((pP + 3) / 2 / 2)) := half_D16 (by decide +kernel)
  have hh3 : Ret 62 #[vR ((pP + 3) / 2 / 2)] (vR ((pP + 3) / 2 / 2 / 2)) := half_D16 (by decide +kernel)
  have hg2 : Ret 62 #[vR (pP - 1)] (vR ((pP - 1) / 2)) := half_D16 (by decide +kernel)
  have hg3 : Ret 62 #[vR ((pP - 1) / 2)] (vR ((pP - 1) / 2 / 2)) := half_D16 (by decide +kernel)
  have p1 := rpower_any (n := (pP + 3) / 2 / 2 / 2) hx (by decide +kernel)
  have p2 := rpower_any (x := 2) (n := (pP - 1) / 2 / 2) (by decide +kernel) (by decide +kernel)
  have ez : (pP + 3) / 2 / 2 / 2 = (pP + 3) / 8 := by decide +kernel
  have ei : (pP - 1) / 2 / 2 = (pP - 1) / 4 := by decide +kernel
  rw [ez] at hh3 p1
  rw [ei] at hg3 p2
  unfold vR at m1 p2
  rw [D16_1] at m1
  rw [D16_2] at p2
  refine rroot_walk (P := D16 pP) (I := D16 rtI) (X := D16 x) (R := fun k => D16 (rrN x k)) (N := fun k => D16 (pP - rrN x k)) (Q := fun k => D16 (mulN (rrN x k) (rrN x k))) (b := fun k => decide (mulN (rrN x k) (rrN x k) = x)) (od := fun k => decide (rrN x k % 2 = 1))
    (D16_len _) (D16_dig _ 0) (D16_len _) (D16_len _) (fun _ => D16_len _) (fun _ => D16_len _) (fun _ => D16_len _) (fun k => D16_dig _ 0) h58 hh1 hh2 hh3 p1 m1 hg2 hg3 p2
    ⟨fun k hk => ⟨rmul_ex (rrN_lt x k) (rrN_lt x k), rmul_ex (rrN_lt x k) rtI_lt, mk _ (rrN_lt x k), hdec k, hod k⟩⟩ ⟨fun k hk h1 h2 => ?_⟩ ⟨fun h => ?_⟩
  · rw [rootA_k hk (fun j hj => of_decide_eq_false (h1 j hj)) (of_decide_eq_true h2), evN]
    by_cases ho : rrN x k % 2 = 1
    · simp only [ho, decide_true, if_true]
    · simp only [ho, decide_false, Bool.false_eq_true, if_false]
  · exact rootA_2 (fun j hj => of_decide_eq_false (h j hj))
end Go.Proofs.Ytmbbdblmengdhaa
