/- Walks of the reference: prime, atLeast, minus, Bytes. -/
import Derived.Test.YtmbbdblmengdhaaB3
set_option linter.unusedSimpArgs false
set_option linter.unusedVariables false
namespace Go.Proofs.Ytmbbdblmengdhaa
open Go.RowKit

def primeL : List Nat := [65517, 65535, 65535, 65535, 65535, 65535, 65535, 65535, 65535, 65535, 65535, 65535, 65535, 65535, 65535, 32767]
@[simp] theorem primeL_len : primeL.length = 16 := rfl
theorem b35_prime : Built 35 [(0, .int .i64 65517), (1, .int .i64 65535), (2, .int .i64 65535), (3, .int .i64 65535), (4, .int .i64 65535), (5, .int .i64 65535), (6, .int .i64 65535), (7, .int .i64 65535), (8, .int .i64 65535), (9, .int .i64 65535), (10, .int .i64 65535), (11, .int .i64 65535), (12, .int .i64 65535), (13, .int .i64 65535), (14, .int .i64 65535), (15, .int .i64 32767)] (C .i64 primeL) := ⟨by kernel_rfl⟩

set_option maxRecDepth 100000 in
set_option maxHeartbeats 1000000 in
theorem prime_any : Ret 58 #[] (.agg (C .i64 primeL)) := by
  refine ⟨fun w => ?_⟩
  obtain ⟨W, hW⟩ : ∃ W, W = w := ⟨_, rfl⟩
  have hH := Has.nil W
  rw [← hW]
  clear hW
  go_enter Try.func58, Try.ntmps58
  apply wp_seq_k; intro K1 hK1
  apply wp_region_lit
  refine wl_allocA rfl rfl z35 hH ?_
  clear hH; intro b1 w hH
  simp only [Act.put, List.setIfInBounds_toArray, List.set_cons_zero, List.set_cons_succ]
  go_wp2_with (first | ((first | ((with_reducible show wpList _ _ _ (_ :: _) _ _); first | refine wl_storerowC 0 rfl rfl rfl rfl hH rfl ?_ ?_ ?_ | refine wl_val rfl (ex_build rfl (b35_0)) ?_ | refine wl_val rfl (ex_build rfl (b35_1 _)) ?_ | refine wl_val rfl (ex_build rfl (b35_16 _ _ _ _ _ _ _ _ _ _ _ _ _ _ _ _)) ?_) | (((with_reducible show wpList _ _ _ ({ dst := _, op := Op.build 35 _, type := _, pos := _, after := _, guard := none } :: _) _ _); (refine wl_val rfl (ex_build rfl b35_prime) ?_); simp only [Act.put, List.setIfInBounds_toArray, List.set_cons_zero, List.set_cons_succ]))) <;> (first | ((with_reducible show wpList _ _ _ _ _ _); try simp only [Act.put, List.setIfInBounds_toArray, List.set_cons_zero, List.set_cons_succ]) | ((with_reducible show wpD _ _ _ _ _ _ _); try simp only [Act.put, List.setIfInBounds_toArray, List.set_cons_zero, List.set_cons_succ]) | (with_reducible show wpN _ _ _ _ _ _) | (with_reducible show Code.wp _ _ _ _ _) | (clear hH; intro w hH; (try simp only [List.nil_append, List.cons_append] at hH); (try simp only [Act.put, List.setIfInBounds_toArray, List.set_cons_zero, List.set_cons_succ] at hH ⊢)) | first | with_reducible assumption | omega | (simp only [List.length_set, List.length_replicate]; omega) | (simp; done) | (simp; omega))) | fail)
  exact ret_cell 0 rfl rfl hH rfl rfl rfl ⟨rfl, hH.below⟩

/-! ### atLeast -/
def geR (a b : List Nat) : Nat → Bool
  | 0 => true
  | k + 1 => if a.getD k 0 ≠ b.getD k 0 then decide (b.getD k 0 < a.getD k 0) else geR a b k

set_option maxRecDepth 100000 in
set_option maxHeartbeats 1000000 in
theorem atLeast_any {a b : List Nat} (ha : a.length = 16) (hb : b.length = 16) : Ret 64 #[.agg (C .i64 a), .agg (C .i64 b)] (.bool (geR a b 16)) := by
  refine ⟨fun w => ?_⟩
  obtain ⟨W, hW⟩ : ∃ W, W = w := ⟨_, rfl⟩
  have hH := Has.nil W
  rw [← hW]
  clear hW
  go_enter Try.func64, Try.ntmps64
  apply wp_seq_k; intro K1 hK1
  apply wp_region_lit
  refine wl_boxA rfl rfl rfl hH ?_
  clear hH; intro b1 w hH
  simp only [Act.put, List.setIfInBounds_toArray, List.set_cons_zero, List.set_cons_succ]
  refine wl_boxA rfl rfl rfl hH ?_
  clear hH; intro b2 w hH
  simp only [Act.put, List.setIfInBounds_toArray, List.set_cons_zero, List.set_cons_succ]
  go_wp2_with (first | ((first | ((with_reducible show wpList _ _ _ (_ :: _) _ _); first | ((first | refine wl_val rfl (ex_move rfl rfl) ?_ | refine wl_val rfl (ex_assign rfl rfl) ?_); try simp only [Act.eval, Array.getD_eq_getD_getElem?, List.getElem?_toArray, List.getElem?_cons_succ, List.getElem?_cons_zero, Option.getD_some, Act.put, List.setIfInBounds_toArray, List.set_cons_zero, List.set_cons_succ])) | ((with_reducible show wpD _ _ _ _ _ (_ :: _) _); first | refine wd_val rfl (ex_ixaddr1 rfl rfl rfl ?_) ?_ | ((first | refine wd_val rfl (ex_move rfl rfl) ?_ | refine wd_val rfl (ex_assign rfl rfl) ?_); try simp only [Act.eval, Array.getD_eq_getD_getElem?, List.getElem?_toArray, List.getElem?_cons_succ, List.getElem?_cons_zero, Option.getD_some, Act.put, List.setIfInBounds_toArray, List.set_cons_zero, List.set_cons_succ]) | refine wd_valH rfl (fun w hH => ex_load 0 rfl rfl hH rfl (C_get ?_)) ?_ | refine wd_valH rfl (fun w hH => ex_load 1 rfl rfl hH rfl (C_get ?_)) ?_ | refine wd_skip rfl ?_ | (refine wd_val (v := ?_) rfl ?_ ?_; rotate_left; focus (intro w; go_simp; try with_reducible rfl))) | ((with_reducible show wpD _ _ _ _ _ _ _); refine wd_done ?_; try dsimp only) | ((with_reducible show wpN _ _ _ _ _ _); refine wn_done ?_; try dsimp only)) <;> (first | ((with_reducible show wpList _ _ _ _ _ _); try simp only [Act.put, List.setIfInBounds_toArray, List.set_cons_zero, List.set_cons_succ]) | ((with_reducible show wpD _ _ _ _ _ _ _); try simp only [Act.put, List.setIfInBounds_toArray, List.set_cons_zero, List.set_cons_succ]) | (with_reducible show wpN _ _ _ _ _ _) | (with_reducible show Code.wp _ _ _ _ _) | (clear hH; intro w hH; (try simp only [List.nil_append, List.cons_append] at hH); (try simp only [Act.put, List.setIfInBounds_toArray, List.set_cons_zero, List.set_cons_succ] at hH ⊢)) | first | with_reducible assumption | omega | (simp only [List.length_set, List.length_replicate]; omega) | (simp; done) | (simp; omega))) | fail)
  go_loopw [5] (fun t wr => ∃ k : Nat, k ≤ 16 ∧ t = .int .i64 ((k : Int) - 1) ∧ geR a b 16 = geR a b k ∧ Has W wr [(b2, C .i64 b, 35), (b1, C .i64 a, 35)]) (fun t _ => (intOf t + 1).toNat)
  case atStart => exact ⟨16, by omega, rfl, rfl, hH⟩
  case round =>
    clear hH
    obtain ⟨k, hk, rfl, hg, hH⟩ := hrel
    have HG := Lib.hid hg
    clear hg
    cases k with
    | zero =>
      go_wp2_with (first | ((first | ((with_reducible show wpList _ _ _ (_ :: _) _ _); first | ((first | refine wl_val rfl (ex_move rfl rfl) ?_ | refine wl_val rfl (ex_assign rfl rfl) ?_); try simp only [Act.eval, Array.getD_eq_getD_getElem?, List.getElem?_toArray, List.getElem?_cons_succ, List.getElem?_cons_zero, Option.getD_some, Act.put, List.setIfInBounds_toArray, List.set_cons_zero, List.set_cons_succ])) | ((with_reducible show wpD _ _ _ _ _ (_ :: _) _); first | refine wd_val rfl (ex_neN rfl rfl rfl) ?_ | refine wd_val rfl (ex_gtN rfl rfl rfl) ?_ | refine wd_val rfl (ex_ixaddr1 rfl rfl rfl ?_) ?_ | ((first | refine wd_val rfl (ex_move rfl rfl) ?_ | refine wd_val rfl (ex_assign rfl rfl) ?_); try simp only [Act.eval, Array.getD_eq_getD_getElem?, List.getElem?_toArray, List.getElem?_cons_succ, List.getElem?_cons_zero, Option.getD_some, Act.put, List.setIfInBounds_toArray, List.set_cons_zero, List.set_cons_succ]) | refine wd_valH rfl (fun w hH => ex_load 0 rfl rfl hH rfl (C_get ?_)) ?_ | refine wd_valH rfl (fun w hH => ex_load 1 rfl rfl hH rfl (C_get ?_)) ?_ | refine wd_skip rfl ?_ | (refine wd_val (v := ?_) rfl ?_ ?_; rotate_left; focus (intro w; go_simp; try with_reducible rfl))) | ((with_reducible show wpD _ _ _ _ _ _ _); refine wd_done ?_; try dsimp only) | ((with_reducible show wpN _ _ _ _ _ _); refine wn_done ?_; try dsimp only)) <;> (first | ((with_reducible show wpList _ _ _ _ _ _); try simp only [Act.put, List.setIfInBounds_toArray, List.set_cons_zero, List.set_cons_succ]) | ((with_reducible show wpD _ _ _ _ _ _ _); try simp only [Act.put, List.setIfInBounds_toArray, List.set_cons_zero, List.set_cons_succ]) | (with_reducible show wpN _ _ _ _ _ _) | (with_reducible show Code.wp _ _ _ _ _) | (clear hH; intro w hH; (try simp only [List.nil_append, List.cons_append] at hH); (try simp only [Act.put, List.setIfInBounds_toArray, List.set_cons_zero, List.set_cons_succ] at hH ⊢)) | first | with_reducible assumption | omega | (simp only [List.length_set, List.length_replicate]; omega) | (simp; done) | (simp; omega))) | fail)
      go_ret
      refine ⟨?_, hH.below⟩
      rw [HG.out, geR]
      rfl
    | succ k =>
      have e : ((k + 1 : Nat) : Int) - 1 = (k : Int) := by omega
      rw [e]
      clear e
      by_cases he : a.getD k 0 = b.getD k 0
      · have hd : decide (a.getD k 0 ≠ b.getD k 0) = false := by simp only [he]; simp
        have HD := Lib.hid hd
        have HE := Lib.hid he
        clear hd he
        go_wp2_with (first | ((first | ((with_reducible show wpList _ _ _ (_ :: _) _ _); first | ((first | refine wl_val rfl (ex_move rfl rfl) ?_ | refine wl_val rfl (ex_assign rfl rfl) ?_); try simp only [Act.eval, Array.getD_eq_getD_getElem?, List.getElem?_toArray, List.getElem?_cons_succ, List.getElem?_cons_zero, Option.getD_some, Act.put, List.setIfInBounds_toArray, List.set_cons_zero, List.set_cons_succ])) | ((with_reducible show wpD _ _ _ _ _ (_ :: _) _); first | refine wd_val rfl (ex_neF rfl rfl rfl HD.out) ?_ | refine wd_val rfl (ex_neN rfl rfl rfl) ?_ | refine wd_val rfl (ex_gtN rfl rfl rfl) ?_ | refine wd_val rfl (ex_ixaddr1 rfl rfl rfl ?_) ?_ | ((first | refine wd_val rfl (ex_move rfl rfl) ?_ | refine wd_val rfl (ex_assign rfl rfl) ?_); try simp only [Act.eval, Array.getD_eq_getD_getElem?, List.getElem?_toArray, List.getElem?_cons_succ, List.getElem?_cons_zero, Option.getD_some, Act.put, List.setIfInBounds_toArray, List.set_cons_zero, List.set_cons_succ]) | refine wd_valH rfl (fun w hH => ex_load 0 rfl rfl hH rfl (C_get ?_)) ?_ | refine wd_valH rfl (fun w hH => ex_load 1 rfl rfl hH rfl (C_get ?_)) ?_ | refine wd_skip rfl ?_ | (refine wd_val (v := ?_) rfl ?_ ?_; rotate_left; focus (intro w; go_simp; try with_reducible rfl))) | ((with_reducible show Code.wp _ (Code.region 4 _ true) _ _ _); refine wp_draw 7 [] (by kernel_rfl) hH ?_) | ((with_reducible show Code.wp _ (Code.region 5 _ true) _ _ _); refine wp_draw 8 [] (by kernel_rfl) hH ?_) | ((with_reducible show wpD _ _ _ _ _ _ _); refine wd_done ?_; try dsimp only) | ((with_reducible show wpN _ _ _ _ _ _); refine wn_done ?_; try dsimp only)) <;> (first | ((with_reducible show wpList _ _ _ _ _ _); try simp only [Act.put, List.setIfInBounds_toArray, List.set_cons_zero, List.set_cons_succ]) | ((with_reducible show wpD _ _ _ _ _ _ _); try simp only [Act.put, List.setIfInBounds_toArray, List.set_cons_zero, List.set_cons_succ]) | (with_reducible show wpN _ _ _ _ _ _) | (with_reducible show Code.wp _ _ _ _ _) | (clear hH; intro w hH; (try simp only [List.nil_append, List.cons_append] at hH); (try simp only [Act.put, List.setIfInBounds_toArray, List.set_cons_zero, List.set_cons_succ] at hH ⊢)) | first | with_reducible assumption | omega | (simp only [List.length_set, List.length_replicate]; omega) | (simp; done) | (simp; omega))) | fail)
        refine ⟨⟨k, by omega, rfl, ?_, hH⟩, by simp [intOf] <;> omega⟩
        rw [HG.out, geR, if_neg (by have := HE.out; simpa using this)]
      · have hd : decide (a.getD k 0 ≠ b.getD k 0) = true := by simpa using he
        have HD := Lib.hid hd
        have HE := Lib.hid he
        clear hd he
        go_wp2_with (first | ((first | ((with_reducible show wpList _ _ _ (_ :: _) _ _); first | ((first | refine wl_val rfl (ex_move rfl rfl) ?_ | refine wl_val rfl (ex_assign rfl rfl) ?_); try simp only [Act.eval, Array.getD_eq_getD_getElem?, List.getElem?_toArray, List.getElem?_cons_succ, List.getElem?_cons_zero, Option.getD_some, Act.put, List.setIfInBounds_toArray, List.set_cons_zero, List.set_cons_succ])) | ((with_reducible show wpD _ _ _ _ _ (_ :: _) _); first | refine wd_val rfl (ex_neF rfl rfl rfl HD.out) ?_ | refine wd_val rfl (ex_neN rfl rfl rfl) ?_ | refine wd_val rfl (ex_gtN rfl rfl rfl) ?_ | refine wd_val rfl (ex_ixaddr1 rfl rfl rfl ?_) ?_ | ((first | refine wd_val rfl (ex_move rfl rfl) ?_ | refine wd_val rfl (ex_assign rfl rfl) ?_); try simp only [Act.eval, Array.getD_eq_getD_getElem?, List.getElem?_toArray, List.getElem?_cons_succ, List.getElem?_cons_zero, Option.getD_some, Act.put, List.setIfInBounds_toArray, List.set_cons_zero, List.set_cons_succ]) | refine wd_valH rfl (fun w hH => ex_load 0 rfl rfl hH rfl (C_get ?_)) ?_ | refine wd_valH rfl (fun w hH => ex_load 1 rfl rfl hH rfl (C_get ?_)) ?_ | refine wd_skip rfl ?_ | (refine wd_val (v := ?_) rfl ?_ ?_; rotate_left; focus (intro w; go_simp; try with_reducible rfl))) | ((with_reducible show Code.wp _ (Code.region 4 _ true) _ _ _); refine wp_draw 7 [] (by kernel_rfl) hH ?_) | ((with_reducible show Code.wp _ (Code.region 5 _ true) _ _ _); refine wp_draw 8 [] (by kernel_rfl) hH ?_) | ((with_reducible show wpD _ _ _ _ _ _ _); refine wd_done ?_; try dsimp only) | ((with_reducible show wpN _ _ _ _ _ _); refine wn_done ?_; try dsimp only)) <;> (first | ((with_reducible show wpList _ _ _ _ _ _); try simp only [Act.put, List.setIfInBounds_toArray, List.set_cons_zero, List.set_cons_succ]) | ((with_reducible show wpD _ _ _ _ _ _ _); try simp only [Act.put, List.setIfInBounds_toArray, List.set_cons_zero, List.set_cons_succ]) | (with_reducible show wpN _ _ _ _ _ _) | (with_reducible show Code.wp _ _ _ _ _) | (clear hH; intro w hH; (try simp only [List.nil_append, List.cons_append] at hH); (try simp only [Act.put, List.setIfInBounds_toArray, List.set_cons_zero, List.set_cons_succ] at hH ⊢)) | first | with_reducible assumption | omega | (simp only [List.length_set, List.length_replicate]; omega) | (simp; done) | (simp; omega))) | fail)
        go_ret
        refine ⟨?_, hH.below⟩
        rw [HG.out, geR, if_pos (HE.out)]
        rfl

/-! ### minus -/
def minStep (s : List Nat × Nat) (b : List Nat) (i : Nat) : List Nat × Nat :=
  if s.1.getD i 0 < b.getD i 0 + s.2 then (s.1.set i (s.1.getD i 0 + 65536 - b.getD i 0 - s.2), 1) else (s.1.set i (s.1.getD i 0 - b.getD i 0 - s.2), 0)
def minR (a b : List Nat) : Nat → List Nat × Nat
  | 0 => (a, 0)
  | i + 1 => minStep (minR a b i) b i
theorem minR_len (a b : List Nat) (i : Nat) : (minR a b i).1.length = a.length := by
  induction i with
  | zero => rfl
  | succ i ih => simp only [minR, minStep]; split <;> simp [ih]
theorem minR_bor (a b : List Nat) (i : Nat) : (minR a b i).2 ≤ 1 := by
  cases i with
  | zero => simp [minR]
  | succ i => simp only [minR, minStep]; split <;> simp
theorem minR_old (a b : List Nat) (i j : Nat) (h : i ≤ j) : (minR a b i).1.getD j 0 = a.getD j 0 := by
  induction i with
  | zero => rfl
  | succ i ih =>
    simp only [minR, minStep]
    split <;> (simp only [List.getD_eq_getElem?_getD] at ih ⊢; rw [List.getElem?_set_ne (by omega)]; exact ih (by omega))
def minusL (a b : List Nat) : List Nat := (minR a b 16).1
@[simp] theorem minusL_len (a b : List Nat) : (minusL a b).length = a.length := minR_len a b 16

set_option maxRecDepth 100000 in
set_option maxHeartbeats 1000000 in
theorem minus_any {a b : List Nat} (ha : a.length = 16) (hb : b.length = 16) (ha16 : ∀ i, a.getD i 0 < 65536) (hb16 : ∀ i, b.getD i 0 < 65536) : Ret 57 #[.agg (C .i64 a), .agg (C .i64 b)] (.agg (C .i64 (minusL a b))) := by
  have HA := Lib.hid ha16
  have HB := Lib.hid hb16
  clear ha16 hb16
  refine ⟨fun w => ?_⟩
  obtain ⟨W, hW⟩ : ∃ W, W = w := ⟨_, rfl⟩
  have hH := Has.nil W
  rw [← hW]
  clear hW
  go_enter Try.func57, Try.ntmps57
  apply wp_seq_k; intro K1 hK1
  apply wp_region_lit
  refine wl_boxA rfl rfl rfl hH ?_
  clear hH; intro b1 w hH
  simp only [Act.put, List.setIfInBounds_toArray, List.set_cons_zero, List.set_cons_succ]
  refine wl_boxA rfl rfl rfl hH ?_
  clear hH; intro b2 w hH
  simp only [Act.put, List.setIfInBounds_toArray, List.set_cons_zero, List.set_cons_succ]
  refine wl_allocA rfl rfl z35 hH ?_
  clear hH; intro b3 w hH
  simp only [Act.put, List.setIfInBounds_toArray, List.set_cons_zero, List.set_cons_succ]
  go_wp2_with (first | ((first | ((with_reducible show wpList _ _ _ (_ :: _) _ _); first | refine wl_loadC 0 rfl rfl rfl hH rfl ?_ ?_ | refine wl_loadC 1 rfl rfl rfl hH rfl ?_ ?_ | refine wl_loadC 2 rfl rfl rfl hH rfl ?_ ?_ | ((with_reducible show wpList _ _ _ (⟨_, Op.store 3 _ _, _, _, _, _⟩ :: _) _ _); first | refine wl_storeC 0 rfl rfl rfl rfl hH rfl ?_ ?_ | refine wl_storeC 1 rfl rfl rfl rfl hH rfl ?_ ?_ | refine wl_storeC 2 rfl rfl rfl rfl hH rfl ?_ ?_) | ((with_reducible show wpList _ _ _ (⟨_, Op.store 35 _ _, _, _, _, _⟩ :: _) _ _); first | refine wl_storerowC 0 rfl rfl rfl rfl hH rfl ?_ ?_ ?_ | refine wl_storerowC 1 rfl rfl rfl rfl hH rfl ?_ ?_ ?_ | refine wl_storerowC 2 rfl rfl rfl rfl hH rfl ?_ ?_ ?_) | refine wl_val rfl (ex_ixaddr1 rfl rfl rfl ?_) ?_ | ((first | refine wl_val rfl (ex_move rfl rfl) ?_ | refine wl_val rfl (ex_assign rfl rfl) ?_); try simp only [Act.eval, Array.getD_eq_getD_getElem?, List.getElem?_toArray, List.getElem?_cons_succ, List.getElem?_cons_zero, Option.getD_some, Act.put, List.setIfInBounds_toArray, List.set_cons_zero, List.set_cons_succ])) | ((with_reducible show wpD _ _ _ _ _ (_ :: _) _); first | refine wd_val rfl (ex_ixaddr1 rfl rfl rfl ?_) ?_ | ((first | refine wd_val rfl (ex_move rfl rfl) ?_ | refine wd_val rfl (ex_assign rfl rfl) ?_); try simp only [Act.eval, Array.getD_eq_getD_getElem?, List.getElem?_toArray, List.getElem?_cons_succ, List.getElem?_cons_zero, Option.getD_some, Act.put, List.setIfInBounds_toArray, List.set_cons_zero, List.set_cons_succ]) | refine wd_valH rfl (fun w hH => ex_load 0 rfl rfl hH rfl (C_get ?_)) ?_ | refine wd_valH rfl (fun w hH => ex_load 1 rfl rfl hH rfl (C_get ?_)) ?_ | refine wd_valH rfl (fun w hH => ex_load 2 rfl rfl hH rfl (C_get ?_)) ?_ | refine wd_skip rfl ?_ | (refine wd_val (v := ?_) rfl ?_ ?_; rotate_left; focus (intro w; go_simp; try with_reducible rfl))) | ((with_reducible show wpD _ _ _ _ _ _ _); refine wd_done ?_; try dsimp only) | ((with_reducible show wpN _ _ _ _ _ _); refine wn_done ?_; try dsimp only)) <;> (first | ((with_reducible show wpList _ _ _ _ _ _); try simp only [Act.put, List.setIfInBounds_toArray, List.set_cons_zero, List.set_cons_succ]) | ((with_reducible show wpD _ _ _ _ _ _ _); try simp only [Act.put, List.setIfInBounds_toArray, List.set_cons_zero, List.set_cons_succ]) | (with_reducible show wpN _ _ _ _ _ _) | (with_reducible show Code.wp _ _ _ _ _) | (clear hH; intro w hH; (try simp only [List.nil_append, List.cons_append] at hH); (try simp only [Act.put, List.setIfInBounds_toArray, List.set_cons_zero, List.set_cons_succ] at hH ⊢)) | first | with_reducible assumption | omega | (simp only [List.length_set, List.length_replicate]; omega) | (simp; done) | (simp; omega))) | fail)
  go_loopw [5, 6] (fun c t wr => ∃ k : Nat, k ≤ 16 ∧ t = .int .i64 k ∧ c = .int .i64 ((minR a b k).2 : Nat) ∧ Has W wr [(b3, C .i64 (List.replicate 16 0), 35), (b2, C .i64 b, 35), (b1, C .i64 (minR a b k).1, 35)]) (fun _ t _ => 16 - (intOf t).toNat)
  case atStart => exact ⟨0, by omega, rfl, rfl, hH⟩
  case round =>
    clear hH
    obtain ⟨k, hk, rfl, rfl, hH⟩ := hrel
    have hl := minR_len a b k
    have hbo := minR_bor a b k
    have hold := minR_old a b k k (Nat.le_refl _)
    by_cases hlt : k < 16
    · have hak := HA.out k
      have hbk := HB.out k
      rw [← hold] at hak
      clear hold
      have hst : minR a b (k + 1) = minStep (minR a b k) b k := rfl
      have HS := Lib.hid hst
      clear hst
      generalize minR a b k = S at hl hbo hak hH HS ⊢
      obtain ⟨x, hx⟩ : ∃ x, S.1.getD k 0 = x := ⟨_, rfl⟩
      obtain ⟨y, hy⟩ : ∃ y, b.getD k 0 = y := ⟨_, rfl⟩
      obtain ⟨c, hc⟩ : ∃ c, S.2 = c := ⟨_, rfl⟩
      rw [hx] at hak
      rw [hy] at hbk
      rw [hc] at hbo
      simp only [minStep, hx, hy, hc] at HS
      have HX := Lib.hid hx
      have HY := Lib.hid hy
      rw [hc]
      clear hx hy hc
      by_cases hlow : x < y + c
      · go_wp2_with (first | ((first | ((with_reducible show wpList _ _ _ (_ :: _) _ _); first | refine wl_load 2 rfl rfl rfl hH rfl (C_get' ?_ HX.out) ?_ | refine wl_load 1 rfl rfl rfl hH rfl (C_get' ?_ HY.out) ?_ | refine wl_val rfl (ex_addZ rfl rfl rfl ?_ ?_) ?_ | refine wl_storeZ 2 rfl rfl rfl rfl hH rfl ?_ ?_ ?_ | refine wl_loadC 0 rfl rfl rfl hH rfl ?_ ?_ | refine wl_loadC 1 rfl rfl rfl hH rfl ?_ ?_ | refine wl_loadC 2 rfl rfl rfl hH rfl ?_ ?_ | ((with_reducible show wpList _ _ _ (⟨_, Op.store 3 _ _, _, _, _, _⟩ :: _) _ _); first | refine wl_storeC 0 rfl rfl rfl rfl hH rfl ?_ ?_ | refine wl_storeC 1 rfl rfl rfl rfl hH rfl ?_ ?_ | refine wl_storeC 2 rfl rfl rfl rfl hH rfl ?_ ?_) | ((with_reducible show wpList _ _ _ (⟨_, Op.store 35 _ _, _, _, _, _⟩ :: _) _ _); first | refine wl_storerowC 0 rfl rfl rfl rfl hH rfl ?_ ?_ ?_ | refine wl_storerowC 1 rfl rfl rfl rfl hH rfl ?_ ?_ ?_ | refine wl_storerowC 2 rfl rfl rfl rfl hH rfl ?_ ?_ ?_) | refine wl_val rfl (ex_ixaddr1 rfl rfl rfl ?_) ?_ | ((first | refine wl_val rfl (ex_move rfl rfl) ?_ | refine wl_val rfl (ex_assign rfl rfl) ?_); try simp only [Act.eval, Array.getD_eq_getD_getElem?, List.getElem?_toArray, List.getElem?_cons_succ, List.getElem?_cons_zero, Option.getD_some, Act.put, List.setIfInBounds_toArray, List.set_cons_zero, List.set_cons_succ])) | ((with_reducible show wpD _ _ _ _ _ (_ :: _) _); first | refine wd_valH rfl (fun w hH => ex_load 2 rfl rfl hH rfl (C_get' ?_ HX.out)) ?_ | refine wd_valH rfl (fun w hH => ex_load 1 rfl rfl hH rfl (C_get' ?_ HY.out)) ?_ | refine wd_val rfl (ex_subZ rfl rfl rfl ?_ ?_) ?_ | refine wd_val rfl (ex_ixaddr1 rfl rfl rfl ?_) ?_ | ((first | refine wd_val rfl (ex_move rfl rfl) ?_ | refine wd_val rfl (ex_assign rfl rfl) ?_); try simp only [Act.eval, Array.getD_eq_getD_getElem?, List.getElem?_toArray, List.getElem?_cons_succ, List.getElem?_cons_zero, Option.getD_some, Act.put, List.setIfInBounds_toArray, List.set_cons_zero, List.set_cons_succ]) | refine wd_valH rfl (fun w hH => ex_load 0 rfl rfl hH rfl (C_get ?_)) ?_ | refine wd_valH rfl (fun w hH => ex_load 1 rfl rfl hH rfl (C_get ?_)) ?_ | refine wd_valH rfl (fun w hH => ex_load 2 rfl rfl hH rfl (C_get ?_)) ?_ | refine wd_skip rfl ?_ | (refine wd_val (v := ?_) rfl ?_ ?_; rotate_left; focus (intro w; go_simp; try with_reducible rfl))) | ((with_reducible show Code.wp _ (Code.region 5 _ true) _ _ _); refine wp_draw 10 [] (by kernel_rfl) hH ?_) | ((with_reducible show wpD _ _ _ _ _ _ _); refine wd_done ?_; try dsimp only) | ((with_reducible show wpN _ _ _ _ _ _); refine wn_done ?_; try dsimp only)) <;> (first | ((with_reducible show wpList _ _ _ _ _ _); try simp only [Act.put, List.setIfInBounds_toArray, List.set_cons_zero, List.set_cons_succ]) | ((with_reducible show wpD _ _ _ _ _ _ _); try simp only [Act.put, List.setIfInBounds_toArray, List.set_cons_zero, List.set_cons_succ]) | (with_reducible show wpN _ _ _ _ _ _) | (with_reducible show Code.wp _ _ _ _ _) | (clear hH; intro w hH; (try simp only [List.nil_append, List.cons_append] at hH); (try simp only [Act.put, List.setIfInBounds_toArray, List.set_cons_zero, List.set_cons_succ] at hH ⊢)) | first | with_reducible assumption | omega | (simp only [List.length_set, List.length_replicate]; omega) | (simp; done) | (simp; omega))) | fail)
        refine ⟨⟨k + 1, by omega, by first | rfl | go_num, ?_, ?_⟩, by simp [intOf] <;> omega⟩
        · rw [HS.out, if_pos hlow]; rfl
        · rw [HS.out, if_pos hlow]
          have : ((x : Int) - (y : Int) - (c : Int) + 65536).toNat = x + 65536 - y - c := by omega
          rw [this] at hH
          exact hH
      · have hnn : (0 : Int) ≤ (x : Int) - (y : Int) - (c : Int) := by omega
        have hnd : decide ((x : Int) - (y : Int) - (c : Int) < 0) = false := by simp; omega
        go_wp2_with (first | ((first | ((with_reducible show wpList _ _ _ (_ :: _) _ _); first | refine wl_load 2 rfl rfl rfl hH rfl (C_get' ?_ HX.out) ?_ | refine wl_load 1 rfl rfl rfl hH rfl (C_get' ?_ HY.out) ?_ | refine wl_storeZ 2 rfl rfl rfl rfl hH rfl ?_ ?_ ?_ | refine wl_loadC 0 rfl rfl rfl hH rfl ?_ ?_ | refine wl_loadC 1 rfl rfl rfl hH rfl ?_ ?_ | refine wl_loadC 2 rfl rfl rfl hH rfl ?_ ?_ | ((with_reducible show wpList _ _ _ (⟨_, Op.store 3 _ _, _, _, _, _⟩ :: _) _ _); first | refine wl_storeC 0 rfl rfl rfl rfl hH rfl ?_ ?_ | refine wl_storeC 1 rfl rfl rfl rfl hH rfl ?_ ?_ | refine wl_storeC 2 rfl rfl rfl rfl hH rfl ?_ ?_) | ((with_reducible show wpList _ _ _ (⟨_, Op.store 35 _ _, _, _, _, _⟩ :: _) _ _); first | refine wl_storerowC 0 rfl rfl rfl rfl hH rfl ?_ ?_ ?_ | refine wl_storerowC 1 rfl rfl rfl rfl hH rfl ?_ ?_ ?_ | refine wl_storerowC 2 rfl rfl rfl rfl hH rfl ?_ ?_ ?_) | refine wl_val rfl (ex_ixaddr1 rfl rfl rfl ?_) ?_ | ((first | refine wl_val rfl (ex_move rfl rfl) ?_ | refine wl_val rfl (ex_assign rfl rfl) ?_); try simp only [Act.eval, Array.getD_eq_getD_getElem?, List.getElem?_toArray, List.getElem?_cons_succ, List.getElem?_cons_zero, Option.getD_some, Act.put, List.setIfInBounds_toArray, List.set_cons_zero, List.set_cons_succ])) | ((with_reducible show wpD _ _ _ _ _ (_ :: _) _); first | refine wd_valH rfl (fun w hH => ex_load 2 rfl rfl hH rfl (C_get' ?_ HX.out)) ?_ | refine wd_valH rfl (fun w hH => ex_load 1 rfl rfl hH rfl (C_get' ?_ HY.out)) ?_ | refine wd_val rfl (ex_subZ rfl rfl rfl ?_ ?_) ?_ | refine wd_val rfl (ex_ixaddr1 rfl rfl rfl ?_) ?_ | ((first | refine wd_val rfl (ex_move rfl rfl) ?_ | refine wd_val rfl (ex_assign rfl rfl) ?_); try simp only [Act.eval, Array.getD_eq_getD_getElem?, List.getElem?_toArray, List.getElem?_cons_succ, List.getElem?_cons_zero, Option.getD_some, Act.put, List.setIfInBounds_toArray, List.set_cons_zero, List.set_cons_succ]) | refine wd_valH rfl (fun w hH => ex_load 0 rfl rfl hH rfl (C_get ?_)) ?_ | refine wd_valH rfl (fun w hH => ex_load 1 rfl rfl hH rfl (C_get ?_)) ?_ | refine wd_valH rfl (fun w hH => ex_load 2 rfl rfl hH rfl (C_get ?_)) ?_ | refine wd_skip rfl ?_ | (refine wd_val (v := ?_) rfl ?_ ?_; rotate_left; focus (intro w; go_simp; try with_reducible rfl))) | ((with_reducible show Code.wp _ (Code.region 5 _ true) _ _ _); refine wp_draw 10 [] (by kernel_rfl) hH ?_) | ((with_reducible show wpD _ _ _ _ _ _ _); refine wd_done ?_; try dsimp only) | ((with_reducible show wpN _ _ _ _ _ _); refine wn_done ?_; try dsimp only)) <;> (first | ((with_reducible show wpList _ _ _ _ _ _); try simp only [Act.put, List.setIfInBounds_toArray, List.set_cons_zero, List.set_cons_succ]) | ((with_reducible show wpD _ _ _ _ _ _ _); try simp only [Act.put, List.setIfInBounds_toArray, List.set_cons_zero, List.set_cons_succ]) | (with_reducible show wpN _ _ _ _ _ _) | (with_reducible show Code.wp _ _ _ _ _) | (clear hH; intro w hH; (try simp only [List.nil_append, List.cons_append] at hH); (try simp only [Act.put, List.setIfInBounds_toArray, List.set_cons_zero, List.set_cons_succ] at hH ⊢)) | first | with_reducible assumption | omega | (simp only [List.length_set, List.length_replicate]; omega) | (simp; done) | (simp; omega))) | fail)
        refine ⟨⟨k + 1, by omega, by first | rfl | go_num, ?_, ?_⟩, by simp [intOf] <;> omega⟩
        · rw [HS.out, if_neg hlow]; rfl
        · rw [HS.out, if_neg hlow]
          have : ((x : Int) - (y : Int) - (c : Int)).toNat = x - y - c := by omega
          rw [this] at hH
          exact hH
    · obtain rfl : k = 16 := by omega
      go_wp2_with (first | ((first | ((with_reducible show wpList _ _ _ (_ :: _) _ _); first | refine wl_loadC 0 rfl rfl rfl hH rfl ?_ ?_ | refine wl_loadC 1 rfl rfl rfl hH rfl ?_ ?_ | refine wl_loadC 2 rfl rfl rfl hH rfl ?_ ?_ | ((with_reducible show wpList _ _ _ (⟨_, Op.store 3 _ _, _, _, _, _⟩ :: _) _ _); first | refine wl_storeC 0 rfl rfl rfl rfl hH rfl ?_ ?_ | refine wl_storeC 1 rfl rfl rfl rfl hH rfl ?_ ?_ | refine wl_storeC 2 rfl rfl rfl rfl hH rfl ?_ ?_) | ((with_reducible show wpList _ _ _ (⟨_, Op.store 35 _ _, _, _, _, _⟩ :: _) _ _); first | refine wl_storerowC 0 rfl rfl rfl rfl hH rfl ?_ ?_ ?_ | refine wl_storerowC 1 rfl rfl rfl rfl hH rfl ?_ ?_ ?_ | refine wl_storerowC 2 rfl rfl rfl rfl hH rfl ?_ ?_ ?_) | refine wl_val rfl (ex_ixaddr1 rfl rfl rfl ?_) ?_ | ((first | refine wl_val rfl (ex_move rfl rfl) ?_ | refine wl_val rfl (ex_assign rfl rfl) ?_); try simp only [Act.eval, Array.getD_eq_getD_getElem?, List.getElem?_toArray, List.getElem?_cons_succ, List.getElem?_cons_zero, Option.getD_some, Act.put, List.setIfInBounds_toArray, List.set_cons_zero, List.set_cons_succ])) | ((with_reducible show wpD _ _ _ _ _ (_ :: _) _); first | refine wd_val rfl (ex_ixaddr1 rfl rfl rfl ?_) ?_ | ((first | refine wd_val rfl (ex_move rfl rfl) ?_ | refine wd_val rfl (ex_assign rfl rfl) ?_); try simp only [Act.eval, Array.getD_eq_getD_getElem?, List.getElem?_toArray, List.getElem?_cons_succ, List.getElem?_cons_zero, Option.getD_some, Act.put, List.setIfInBounds_toArray, List.set_cons_zero, List.set_cons_succ]) | refine wd_valH rfl (fun w hH => ex_load 0 rfl rfl hH rfl (C_get ?_)) ?_ | refine wd_valH rfl (fun w hH => ex_load 1 rfl rfl hH rfl (C_get ?_)) ?_ | refine wd_valH rfl (fun w hH => ex_load 2 rfl rfl hH rfl (C_get ?_)) ?_ | refine wd_skip rfl ?_ | (refine wd_val (v := ?_) rfl ?_ ?_; rotate_left; focus (intro w; go_simp; try with_reducible rfl))) | ((with_reducible show wpD _ _ _ _ _ _ _); refine wd_done ?_; try dsimp only) | ((with_reducible show wpN _ _ _ _ _ _); refine wn_done ?_; try dsimp only)) <;> (first | ((with_reducible show wpList _ _ _ _ _ _); try simp only [Act.put, List.setIfInBounds_toArray, List.set_cons_zero, List.set_cons_succ]) | ((with_reducible show wpD _ _ _ _ _ _ _); try simp only [Act.put, List.setIfInBounds_toArray, List.set_cons_zero, List.set_cons_succ]) | (with_reducible show wpN _ _ _ _ _ _) | (with_reducible show Code.wp _ _ _ _ _) | (clear hH; intro w hH; (try simp only [List.nil_append, List.cons_append] at hH); (try simp only [Act.put, List.setIfInBounds_toArray, List.set_cons_zero, List.set_cons_succ] at hH ⊢)) | first | with_reducible assumption | omega | (simp only [List.length_set, List.length_replicate]; omega) | (simp; done) | (simp; omega))) | fail)
      refine ret_cell 0 rfl rfl hH rfl ?_ rfl ⟨rfl, hH.below⟩
      rw [C_size]; omega
end Go.Proofs.Ytmbbdblmengdhaa
