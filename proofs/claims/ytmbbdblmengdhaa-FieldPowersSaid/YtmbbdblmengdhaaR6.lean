/- Walks of the reference: Mul. -/
import Derived.Test.YtmbbdblmengdhaaB3
import Derived.Test.YtmbbdblmengdhaaR5
set_option linter.unusedSimpArgs false
set_option linter.unusedVariables false
namespace Go.Proofs.Ytmbbdblmengdhaa
open Go.RowKit

def mrI (a b : List Nat) (i : Nat) (s : List Nat) : Nat → List Nat
  | 0 => s
  | j + 1 => (mrI a b i s j).set (i + j) ((mrI a b i s j).getD (i + j) 0 + a.getD i 0 * b.getD j 0)
def mrO (a b : List Nat) : Nat → List Nat
  | 0 => List.replicate 32 0
  | i + 1 => mrI a b i (mrO a b i) 16
@[simp] theorem mrI_len (a b : List Nat) (i : Nat) (s : List Nat) (j : Nat) : (mrI a b i s j).length = s.length := by
  induction j with
  | zero => rfl
  | succ k ih => simp [mrI, ih]
@[simp] theorem mrO_len (a b : List Nat) (i : Nat) : (mrO a b i).length = 32 := by
  induction i with
  | zero => rfl
  | succ k ih => simp [mrO, ih]
theorem mrI_bd {a b s : List Nat} {i B : Nat} (ha : ∀ i, a.getD i 0 < 65536) (hb : ∀ i, b.getD i 0 < 65536) (hs : ∀ k, s.getD k 0 ≤ B) (j : Nat) : ∀ k, (mrI a b i s j).getD k 0 ≤ B + j * 4294836225 := by
  induction j with
  | zero => simpa [mrI] using hs
  | succ j ih =>
    have h1 := ha i
    have h2 := hb j
    have h3 : a.getD i 0 * b.getD j 0 ≤ 65535 * 65535 := Nat.mul_le_mul (by omega) (by omega)
    have h4 := ih (i + j)
    intro k
    have := getD_le (B := B + j * 4294836225 + 4294836225) (l := mrI a b i s j) (j := i + j) (v := (mrI a b i s j).getD (i + j) 0 + a.getD i 0 * b.getD j 0) (fun k => by have := ih k; omega) (by omega) k
    have e : B + (j + 1) * 4294836225 = B + j * 4294836225 + 4294836225 := by omega
    rw [e]; exact this
theorem mrO_bd {a b : List Nat} (ha : ∀ i, a.getD i 0 < 65536) (hb : ∀ i, b.getD i 0 < 65536) (i : Nat) : ∀ k, (mrO a b i).getD k 0 ≤ i * 68717379600 := by
  induction i with
  | zero => intro k; exact rep0_le
  | succ i ih =>
    intro k
    have := mrI_bd (i := i) ha hb ih 16 k
    simp only [mrO]; omega

set_option maxRecDepth 100000 in
set_option maxHeartbeats 1000000 in
theorem rmul_walk {a b Q : List Nat} (ha : a.length = 16) (hb : b.length = 16) (ha16 : ∀ i, a.getD i 0 < 65536) (hb16 : ∀ i, b.getD i 0 < 65536) (hQ : Q.length = 16) (hs : Ret 55 #[.agg (C .i64 (mrO a b 16))] (.agg (C .i64 Q))) :
    Ret 24 #[.agg (C .i64 a), .agg (C .i64 b)] (.agg (C .i64 Q)) := by
  have HA : Veil (∀ i, a.getD i 0 < 65536) := ⟨ha16⟩
  have HB : Veil (∀ i, b.getD i 0 < 65536) := ⟨hb16⟩
  clear ha16 hb16
  refine ⟨fun w => ?_⟩
  obtain ⟨W, hW⟩ : ∃ W, W = w := ⟨_, rfl⟩
  have hH := Has.nil W
  rw [← hW]
  clear hW
  go_enter Try.func24, Try.ntmps24
  apply wp_seq_k; intro K1 hK1
  apply wp_region_lit
  refine wl_boxA rfl rfl rfl hH ?_
  clear hH; intro b1 w hH
  simp only [Act.put, List.setIfInBounds_toArray, List.set_cons_zero, List.set_cons_succ]
  refine wl_boxA rfl rfl rfl hH ?_
  clear hH; intro b2 w hH
  simp only [Act.put, List.setIfInBounds_toArray, List.set_cons_zero, List.set_cons_succ]
  refine wl_allocA rfl rfl z35 hH ?_
  clear hH; intro b3 w hH
  simp only [Act.put, List.setIfInBounds_toArray, List.set_cons_zero, List.set_cons_succ]
  go_wp2_with (first | ((first | ((with_reducible show wpList _ _ _ (_ :: _) _ _); first | (refine wl_allocA rfl rfl z78 hH ?_; clear hH; intro b4 w hH) | refine wl_loadC 0 rfl rfl rfl hH rfl ?_ ?_ | refine wl_loadC 1 rfl rfl rfl hH rfl ?_ ?_ | refine wl_loadC 2 rfl rfl rfl hH rfl ?_ ?_ | ((with_reducible show wpList _ _ _ (⟨_, Op.store 3 _ _, _, _, _, _⟩ :: _) _ _); first | refine wl_storeC 0 rfl rfl rfl rfl hH rfl ?_ ?_ | refine wl_storeC 1 rfl rfl rfl rfl hH rfl ?_ ?_ | refine wl_storeC 2 rfl rfl rfl rfl hH rfl ?_ ?_) | ((with_reducible show wpList _ _ _ (⟨_, Op.store 35 _ _, _, _, _, _⟩ :: _) _ _); first | refine wl_storerowC 0 rfl rfl rfl rfl hH rfl ?_ ?_ ?_ | refine wl_storerowC 1 rfl rfl rfl rfl hH rfl ?_ ?_ ?_ | refine wl_storerowC 2 rfl rfl rfl rfl hH rfl ?_ ?_ ?_) | ((first | refine wl_val rfl (ex_move rfl rfl) ?_ | refine wl_val rfl (ex_assign rfl rfl) ?_); try simp only [Act.eval, Array.getD_eq_getD_getElem?, List.getElem?_toArray, List.getElem?_cons_succ, List.getElem?_cons_zero, Option.getD_some, Act.put, List.setIfInBounds_toArray, List.set_cons_zero, List.set_cons_succ])) | ((with_reducible show wpD _ _ _ _ _ (_ :: _) _); first | refine wd_val rfl (ex_ixaddr1 rfl rfl rfl ?_) ?_ | ((first | refine wd_val rfl (ex_move rfl rfl) ?_); try simp only [Act.eval, Array.getD_eq_getD_getElem?, List.getElem?_toArray, List.getElem?_cons_succ, List.getElem?_cons_zero, Option.getD_some, Act.put, List.setIfInBounds_toArray, List.set_cons_zero, List.set_cons_succ]) | refine wd_valH rfl (fun w hH => ex_load 0 rfl rfl hH rfl (C_get ?_)) ?_ | refine wd_valH rfl (fun w hH => ex_load 1 rfl rfl hH rfl (C_get ?_)) ?_ | refine wd_valH rfl (fun w hH => ex_load 2 rfl rfl hH rfl (C_get ?_)) ?_ | refine wd_skip rfl ?_ | (refine wd_val (v := ?_) rfl ?_ ?_; rotate_left; focus (intro w; go_simp; try with_reducible rfl))) | ((with_reducible show wpD _ _ _ _ _ _ _); refine wd_done ?_; try dsimp only) | ((with_reducible show wpN _ _ _ _ _ _); refine wn_done ?_; try dsimp only)) <;> (first | ((with_reducible show wpList _ _ _ _ _ _); try simp only [Act.put, List.setIfInBounds_toArray, List.set_cons_zero, List.set_cons_succ]) | ((with_reducible show wpD _ _ _ _ _ _ _); try simp only [Act.put, List.setIfInBounds_toArray, List.set_cons_zero, List.set_cons_succ]) | (with_reducible show wpN _ _ _ _ _ _) | (with_reducible show Code.wp _ _ _ _ _) | (clear hH; intro w hH; (try simp only [List.nil_append, List.cons_append] at hH); (try simp only [Act.put, List.setIfInBounds_toArray, List.set_cons_zero, List.set_cons_succ] at hH ⊢)) | first | with_reducible assumption | omega | (simp only [List.length_set, List.length_replicate]; omega) | (simp; done) | (simp; omega))) | fail)
  go_loopw [6] (fun t wr => ∃ i : Nat, i ≤ 16 ∧ t = .int .i64 i ∧ Has W wr [(b4, C .i64 (mrO a b i), 78), (b3, C .i64 (List.replicate 16 0), 35), (b2, C .i64 b, 35), (b1, C .i64 a, 35)]) (fun t _ => 16 - (intOf t).toNat)
  case atStart => exact ⟨0, by omega, rfl, hH⟩
  case round =>
    clear hH
    obtain ⟨i, hi, rfl, hH⟩ := hrel
    have hlen := mrO_len a b i
    by_cases hlt : i < 16
    · have hai := HA.out i
      have HS : Veil (mrO a b (i + 1) = mrI a b i (mrO a b i) 16) := ⟨rfl⟩
      have HD : Veil (∀ k, (mrO a b i).getD k 0 ≤ 1099478073600) := ⟨fun k => by have := mrO_bd HA.out HB.out i k; omega⟩
      generalize mrO a b i = S at hlen HS HD hH ⊢
      go_wp2_with (first | ((first | ((with_reducible show wpList _ _ _ (_ :: _) _ _); first | refine wl_loadC 0 rfl rfl rfl hH rfl ?_ ?_ | refine wl_loadC 1 rfl rfl rfl hH rfl ?_ ?_ | refine wl_loadC 2 rfl rfl rfl hH rfl ?_ ?_ | refine wl_loadC 3 rfl rfl rfl hH rfl ?_ ?_ | ((with_reducible show wpList _ _ _ (⟨_, Op.store 3 _ _, _, _, _, _⟩ :: _) _ _); first | refine wl_storeC 0 rfl rfl rfl rfl hH rfl ?_ ?_ | refine wl_storeC 1 rfl rfl rfl rfl hH rfl ?_ ?_ | refine wl_storeC 2 rfl rfl rfl rfl hH rfl ?_ ?_ | refine wl_storeC 3 rfl rfl rfl rfl hH rfl ?_ ?_) | ((with_reducible show wpList _ _ _ (⟨_, Op.store 35 _ _, _, _, _, _⟩ :: _) _ _); first | refine wl_storerowC 0 rfl rfl rfl rfl hH rfl ?_ ?_ ?_ | refine wl_storerowC 1 rfl rfl rfl rfl hH rfl ?_ ?_ ?_ | refine wl_storerowC 2 rfl rfl rfl rfl hH rfl ?_ ?_ ?_ | refine wl_storerowC 3 rfl rfl rfl rfl hH rfl ?_ ?_ ?_) | ((first | refine wl_val rfl (ex_move rfl rfl) ?_ | refine wl_val rfl (ex_assign rfl rfl) ?_); try simp only [Act.eval, Array.getD_eq_getD_getElem?, List.getElem?_toArray, List.getElem?_cons_succ, List.getElem?_cons_zero, Option.getD_some, Act.put, List.setIfInBounds_toArray, List.set_cons_zero, List.set_cons_succ])) | ((with_reducible show wpD _ _ _ _ _ (_ :: _) _); first | refine wd_val rfl (ex_ixaddr1 rfl rfl rfl ?_) ?_ | ((first | refine wd_val rfl (ex_move rfl rfl) ?_); try simp only [Act.eval, Array.getD_eq_getD_getElem?, List.getElem?_toArray, List.getElem?_cons_succ, List.getElem?_cons_zero, Option.getD_some, Act.put, List.setIfInBounds_toArray, List.set_cons_zero, List.set_cons_succ]) | refine wd_valH rfl (fun w hH => ex_load 0 rfl rfl hH rfl (C_get ?_)) ?_ | refine wd_valH rfl (fun w hH => ex_load 1 rfl rfl hH rfl (C_get ?_)) ?_ | refine wd_valH rfl (fun w hH => ex_load 2 rfl rfl hH rfl (C_get ?_)) ?_ | refine wd_valH rfl (fun w hH => ex_load 3 rfl rfl hH rfl (C_get ?_)) ?_ | refine wd_skip rfl ?_ | (refine wd_val (v := ?_) rfl ?_ ?_; rotate_left; focus (intro w; go_simp; try with_reducible rfl))) | ((with_reducible show wpD _ _ _ _ _ _ _); refine wd_done ?_; try dsimp only) | ((with_reducible show wpN _ _ _ _ _ _); refine wn_done ?_; try dsimp only)) <;> (first | ((with_reducible show wpList _ _ _ _ _ _); try simp only [Act.put, List.setIfInBounds_toArray, List.set_cons_zero, List.set_cons_succ]) | ((with_reducible show wpD _ _ _ _ _ _ _); try simp only [Act.put, List.setIfInBounds_toArray, List.set_cons_zero, List.set_cons_succ]) | (with_reducible show wpN _ _ _ _ _ _) | (with_reducible show Code.wp _ _ _ _ _) | (clear hH; intro w hH; (try simp only [List.nil_append, List.cons_append] at hH); (try simp only [Act.put, List.setIfInBounds_toArray, List.set_cons_zero, List.set_cons_succ] at hH ⊢)) | first | with_reducible assumption | omega | (simp only [List.length_set, List.length_replicate]; omega) | (simp; done) | (simp; omega))) | fail)
      go_loopw [7] (fun t wr => ∃ j : Nat, j ≤ 16 ∧ t = .int .i64 j ∧ Has W wr [(b4, C .i64 (mrI a b i S j), 78), (b3, C .i64 (List.replicate 16 0), 35), (b2, C .i64 b, 35), (b1, C .i64 a, 35)]) (fun t _ => 16 - (intOf t).toNat)
      case atStart => exact ⟨0, by omega, rfl, hH⟩
      case round =>
        clear hH
        obtain ⟨j, hj, rfl, hH⟩ := hrel
        have hlen2 := mrI_len a b i S j
        rw [hlen] at hlen2
        by_cases hlt2 : j < 16
        · have hbj := HB.out j
          have hp : a.getD i 0 * b.getD j 0 ≤ 65535 * 65535 := Nat.mul_le_mul (by omega) (by omega)
          have hT : (mrI a b i S j).getD (i + j) 0 ≤ 1168196000000 := by have := mrI_bd (i := i) HA.out HB.out HD.out j (i + j); omega
          have HT : Veil (mrI a b i S (j + 1) = (mrI a b i S j).set (i + j) ((mrI a b i S j).getD (i + j) 0 + a.getD i 0 * b.getD j 0)) := ⟨rfl⟩
          generalize mrI a b i S j = T at hlen2 hT HT hH ⊢
          obtain ⟨x, hx⟩ : ∃ x, a.getD i 0 = x := ⟨_, rfl⟩
          obtain ⟨y, hy⟩ : ∃ y, b.getD j 0 = y := ⟨_, rfl⟩
          rw [hx] at hai hp
          rw [hy] at hbj hp
          rw [hx, hy] at HT
          have HX : Veil (a.getD i 0 = x) := ⟨hx⟩
          have HY : Veil (b.getD j 0 = y) := ⟨hy⟩
          clear hx hy
          go_wp2_with (first | ((first | ((with_reducible show wpList _ _ _ (_ :: _) _ _); first | refine wl_val rfl (ex_add_i64 rfl rfl rfl ?_) ?_ | refine wl_load 3 rfl rfl rfl hH rfl (C_get' ?_ HX.out) ?_ | refine wl_load 2 rfl rfl rfl hH rfl (C_get' ?_ HY.out) ?_ | refine wl_loadC 0 rfl rfl rfl hH rfl ?_ ?_ | refine wl_loadC 1 rfl rfl rfl hH rfl ?_ ?_ | refine wl_loadC 2 rfl rfl rfl hH rfl ?_ ?_ | refine wl_loadC 3 rfl rfl rfl hH rfl ?_ ?_ | ((with_reducible show wpList _ _ _ (⟨_, Op.store 3 _ _, _, _, _, _⟩ :: _) _ _); first | refine wl_storeC 0 rfl rfl rfl rfl hH rfl ?_ ?_ | refine wl_storeC 1 rfl rfl rfl rfl hH rfl ?_ ?_ | refine wl_storeC 2 rfl rfl rfl rfl hH rfl ?_ ?_ | refine wl_storeC 3 rfl rfl rfl rfl hH rfl ?_ ?_) | ((with_reducible show wpList _ _ _ (⟨_, Op.store 35 _ _, _, _, _, _⟩ :: _) _ _); first | refine wl_storerowC 0 rfl rfl rfl rfl hH rfl ?_ ?_ ?_ | refine wl_storerowC 1 rfl rfl rfl rfl hH rfl ?_ ?_ ?_ | refine wl_storerowC 2 rfl rfl rfl rfl hH rfl ?_ ?_ ?_ | refine wl_storerowC 3 rfl rfl rfl rfl hH rfl ?_ ?_ ?_) | ((first | refine wl_val rfl (ex_move rfl rfl) ?_ | refine wl_val rfl (ex_assign rfl rfl) ?_); try simp only [Act.eval, Array.getD_eq_getD_getElem?, List.getElem?_toArray, List.getElem?_cons_succ, List.getElem?_cons_zero, Option.getD_some, Act.put, List.setIfInBounds_toArray, List.set_cons_zero, List.set_cons_succ])) | ((with_reducible show wpD _ _ _ _ _ (_ :: _) _); first | refine wd_val rfl (ex_add_i64 rfl rfl rfl ?_) ?_ | refine wd_val rfl (ex_mul_i64 rfl rfl rfl ?_) ?_ | refine wd_valH rfl (fun w hH => ex_load 3 rfl rfl hH rfl (C_get' ?_ HX.out)) ?_ | refine wd_valH rfl (fun w hH => ex_load 2 rfl rfl hH rfl (C_get' ?_ HY.out)) ?_ | refine wd_val rfl (ex_ixaddr1 rfl rfl rfl ?_) ?_ | ((first | refine wd_val rfl (ex_move rfl rfl) ?_); try simp only [Act.eval, Array.getD_eq_getD_getElem?, List.getElem?_toArray, List.getElem?_cons_succ, List.getElem?_cons_zero, Option.getD_some, Act.put, List.setIfInBounds_toArray, List.set_cons_zero, List.set_cons_succ]) | refine wd_valH rfl (fun w hH => ex_load 0 rfl rfl hH rfl (C_get ?_)) ?_ | refine wd_valH rfl (fun w hH => ex_load 1 rfl rfl hH rfl (C_get ?_)) ?_ | refine wd_valH rfl (fun w hH => ex_load 2 rfl rfl hH rfl (C_get ?_)) ?_ | refine wd_valH rfl (fun w hH => ex_load 3 rfl rfl hH rfl (C_get ?_)) ?_ | refine wd_skip rfl ?_ | (refine wd_val (v := ?_) rfl ?_ ?_; rotate_left; focus (intro w; go_simp; try with_reducible rfl))) | ((with_reducible show Code.wp _ (Code.region 8 _ true) _ _ _); refine wp_draw 17 [] (by kernel_rfl) hH ?_) | ((with_reducible show wpD _ _ _ _ _ _ _); refine wd_done ?_; try dsimp only) | ((with_reducible show wpN _ _ _ _ _ _); refine wn_done ?_; try dsimp only)) <;> (first | ((with_reducible show wpList _ _ _ _ _ _); try simp only [Act.put, List.setIfInBounds_toArray, List.set_cons_zero, List.set_cons_succ]) | ((with_reducible show wpD _ _ _ _ _ _ _); try simp only [Act.put, List.setIfInBounds_toArray, List.set_cons_zero, List.set_cons_succ]) | (with_reducible show wpN _ _ _ _ _ _) | (with_reducible show Code.wp _ _ _ _ _) | (clear hH; intro w hH; (try simp only [List.nil_append, List.cons_append] at hH); (try simp only [Act.put, List.setIfInBounds_toArray, List.set_cons_zero, List.set_cons_succ] at hH ⊢)) | first | with_reducible assumption | omega | (simp only [List.length_set, List.length_replicate]; omega) | (simp; done) | (simp; omega))) | fail)
          refine ⟨⟨j + 1, by omega, by first | rfl | go_num, ?_⟩, by simp [intOf]; omega⟩
          rw [HT.out]; exact hH
        · obtain rfl : j = 16 := by omega
          have HT : Veil (mrO a b (i + 1) = mrI a b i S 16) := HS
          generalize mrI a b i S 16 = T at hlen2 HT hH ⊢
          go_wp2_with (first | ((first | ((with_reducible show wpList _ _ _ (_ :: _) _ _); first | refine wl_loadC 0 rfl rfl rfl hH rfl ?_ ?_ | refine wl_loadC 1 rfl rfl rfl hH rfl ?_ ?_ | refine wl_loadC 2 rfl rfl rfl hH rfl ?_ ?_ | refine wl_loadC 3 rfl rfl rfl hH rfl ?_ ?_ | ((with_reducible show wpList _ _ _ (⟨_, Op.store 3 _ _, _, _, _, _⟩ :: _) _ _); first | refine wl_storeC 0 rfl rfl rfl rfl hH rfl ?_ ?_ | refine wl_storeC 1 rfl rfl rfl rfl hH rfl ?_ ?_ | refine wl_storeC 2 rfl rfl rfl rfl hH rfl ?_ ?_ | refine wl_storeC 3 rfl rfl rfl rfl hH rfl ?_ ?_) | ((with_reducible show wpList _ _ _ (⟨_, Op.store 35 _ _, _, _, _, _⟩ :: _) _ _); first | refine wl_storerowC 0 rfl rfl rfl rfl hH rfl ?_ ?_ ?_ | refine wl_storerowC 1 rfl rfl rfl rfl hH rfl ?_ ?_ ?_ | refine wl_storerowC 2 rfl rfl rfl rfl hH rfl ?_ ?_ ?_ | refine wl_storerowC 3 rfl rfl rfl rfl hH rfl ?_ ?_ ?_) | ((first | refine wl_val rfl (ex_move rfl rfl) ?_ | refine wl_val rfl (ex_assign rfl rfl) ?_); try simp only [Act.eval, Array.getD_eq_getD_getElem?, List.getElem?_toArray, List.getElem?_cons_succ, List.getElem?_cons_zero, Option.getD_some, Act.put, List.setIfInBounds_toArray, List.set_cons_zero, List.set_cons_succ])) | ((with_reducible show wpD _ _ _ _ _ (_ :: _) _); first | refine wd_val rfl (ex_ixaddr1 rfl rfl rfl ?_) ?_ | ((first | refine wd_val rfl (ex_move rfl rfl) ?_); try simp only [Act.eval, Array.getD_eq_getD_getElem?, List.getElem?_toArray, List.getElem?_cons_succ, List.getElem?_cons_zero, Option.getD_some, Act.put, List.setIfInBounds_toArray, List.set_cons_zero, List.set_cons_succ]) | refine wd_valH rfl (fun w hH => ex_load 0 rfl rfl hH rfl (C_get ?_)) ?_ | refine wd_valH rfl (fun w hH => ex_load 1 rfl rfl hH rfl (C_get ?_)) ?_ | refine wd_valH rfl (fun w hH => ex_load 2 rfl rfl hH rfl (C_get ?_)) ?_ | refine wd_valH rfl (fun w hH => ex_load 3 rfl rfl hH rfl (C_get ?_)) ?_ | refine wd_skip rfl ?_ | (refine wd_val (v := ?_) rfl ?_ ?_; rotate_left; focus (intro w; go_simp; try with_reducible rfl))) | ((with_reducible show wpD _ _ _ _ _ _ _); refine wd_done ?_; try dsimp only) | ((with_reducible show wpN _ _ _ _ _ _); refine wn_done ?_; try dsimp only)) <;> (first | ((with_reducible show wpList _ _ _ _ _ _); try simp only [Act.put, List.setIfInBounds_toArray, List.set_cons_zero, List.set_cons_succ]) | ((with_reducible show wpD _ _ _ _ _ _ _); try simp only [Act.put, List.setIfInBounds_toArray, List.set_cons_zero, List.set_cons_succ]) | (with_reducible show wpN _ _ _ _ _ _) | (with_reducible show Code.wp _ _ _ _ _) | (clear hH; intro w hH; (try simp only [List.nil_append, List.cons_append] at hH); (try simp only [Act.put, List.setIfInBounds_toArray, List.set_cons_zero, List.set_cons_succ] at hH ⊢)) | first | with_reducible assumption | omega | (simp only [List.length_set, List.length_replicate]; omega) | (simp; done) | (simp; omega))) | fail)
          refine ⟨⟨i + 1, by omega, by first | rfl | go_num, ?_⟩, by simp [intOf]; omega⟩
          rw [HT.out]; exact hH
    · obtain rfl : i = 16 := by omega
      generalize mrO a b 16 = S at hlen hs hH ⊢
      go_wp2_with (first | ((first | ((with_reducible show wpList _ _ _ (_ :: _) _ _); first | refine wl_val rfl (ex_add_i64 rfl rfl rfl ?_) ?_ | refine wl_callc rfl rfl (f := 55) rfl (args1 _ _) (hs) hH ?_ | refine wl_loadC 0 rfl rfl rfl hH rfl ?_ ?_ | refine wl_loadC 1 rfl rfl rfl hH rfl ?_ ?_ | refine wl_loadC 2 rfl rfl rfl hH rfl ?_ ?_ | refine wl_loadC 3 rfl rfl rfl hH rfl ?_ ?_ | ((with_reducible show wpList _ _ _ (⟨_, Op.store 3 _ _, _, _, _, _⟩ :: _) _ _); first | refine wl_storeC 0 rfl rfl rfl rfl hH rfl ?_ ?_ | refine wl_storeC 1 rfl rfl rfl rfl hH rfl ?_ ?_ | refine wl_storeC 2 rfl rfl rfl rfl hH rfl ?_ ?_ | refine wl_storeC 3 rfl rfl rfl rfl hH rfl ?_ ?_) | ((with_reducible show wpList _ _ _ (⟨_, Op.store 35 _ _, _, _, _, _⟩ :: _) _ _); first | refine wl_storerowC 0 rfl rfl rfl rfl hH rfl ?_ ?_ ?_ | refine wl_storerowC 1 rfl rfl rfl rfl hH rfl ?_ ?_ ?_ | refine wl_storerowC 2 rfl rfl rfl rfl hH rfl ?_ ?_ ?_ | refine wl_storerowC 3 rfl rfl rfl rfl hH rfl ?_ ?_ ?_) | ((first | refine wl_val rfl (ex_move rfl rfl) ?_ | refine wl_val rfl (ex_assign rfl rfl) ?_); try simp only [Act.eval, Array.getD_eq_getD_getElem?, List.getElem?_toArray, List.getElem?_cons_succ, List.getElem?_cons_zero, Option.getD_some, Act.put, List.setIfInBounds_toArray, List.set_cons_zero, List.set_cons_succ])) | ((with_reducible show wpD _ _ _ _ _ (_ :: _) _); first | refine wd_val rfl (ex_add_i64 rfl rfl rfl ?_) ?_ | refine wd_val rfl (ex_mul_i64 rfl rfl rfl ?_) ?_ | refine wd_val rfl (ex_ixaddr1 rfl rfl rfl ?_) ?_ | ((first | refine wd_val rfl (ex_move rfl rfl) ?_); try simp only [Act.eval, Array.getD_eq_getD_getElem?, List.getElem?_toArray, List.getElem?_cons_succ, List.getElem?_cons_zero, Option.getD_some, Act.put, List.setIfInBounds_toArray, List.set_cons_zero, List.set_cons_succ]) | refine wd_valH rfl (fun w hH => ex_load 0 rfl rfl hH rfl (C_get ?_)) ?_ | refine wd_valH rfl (fun w hH => ex_load 1 rfl rfl hH rfl (C_get ?_)) ?_ | refine wd_valH rfl (fun w hH => ex_load 2 rfl rfl hH rfl (C_get ?_)) ?_ | refine wd_valH rfl (fun w hH => ex_load 3 rfl rfl hH rfl (C_get ?_)) ?_ | refine wd_skip rfl ?_ | (refine wd_val (v := ?_) rfl ?_ ?_; rotate_left; focus (intro w; go_simp; try with_reducible rfl))) | ((with_reducible show wpD _ _ _ _ _ _ _); refine wd_done ?_; try dsimp only) | ((with_reducible show wpN _ _ _ _ _ _); refine wn_done ?_; try dsimp only)) <;> (first | ((with_reducible show wpList _ _ _ _ _ _); try simp only [Act.put, List.setIfInBounds_toArray, List.set_cons_zero, List.set_cons_succ]) | ((with_reducible show wpD _ _ _ _ _ _ _); try simp only [Act.put, List.setIfInBounds_toArray, List.set_cons_zero, List.set_cons_succ]) | (with_reducible show wpN _ _ _ _ _ _) | (with_reducible show Code.wp _ _ _ _ _) | (clear hH; intro w hH; (try simp only [List.nil_append, List.cons_append] at hH); (try simp only [Act.put, List.setIfInBounds_toArray, List.set_cons_zero, List.set_cons_succ] at hH ⊢)) | first | with_reducible assumption | omega | (simp only [List.length_set, List.length_replicate]; omega) | (simp; done) | (simp; omega))) | fail)
      refine ret_cell 1 rfl rfl hH rfl ?_ rfl ⟨rfl, hH.below⟩
      rw [C_size]; omega
end Go.Proofs.Ytmbbdblmengdhaa
