/- Walks: word, From. -/
import Derived.Test.YtmbbdblmengdhaaB1
import Derived.Lib.Hide
set_option linter.unusedSimpArgs false
set_option linter.unusedVariables false
namespace Go.Proofs.Ytmbbdblmengdhaa
open Go.RowKit

/-- Eight bytes as a word: k of them read, from the highest on. -/
def wordN (l : List Nat) (off : Nat) : Nat → Nat
  | 0 => 0
  | k + 1 => ((wordN l off k * 2 ^ 8) % 18446744073709551616 ||| l.getD (off + (7 - k)) 0) % 18446744073709551616
def wordL (l : List Nat) (off : Nat) : Nat := wordN l off 8

set_option maxRecDepth 100000 in
set_option maxHeartbeats 400000 in
theorem word_any (l : List Nat) (hl8 : ∀ i, l.getD i 0 < 256) (off len cap : Nat) (hlen : len = 8 ∨ 8 < len) (hcap : len < 100) (b : Nat) (w : World) (hc : ∀ j, j < 8 → w.cell? ⟨b, off + j, none⟩ = some (.int .u8 (l.getD (off + j) 0 : Nat))) :
    Calls Try.prog 50 #[.slice (some ⟨b, off, none⟩) len cap] w fun e w' => e = .returned (.int .u64 (wordL l off : Nat)) ∧ w = w' := by
  have HC := Lib.hid hc
  have H8 := Lib.hid hl8
  clear hc hl8
  go_enter Try.func50, Try.ntmps50
  go_wp2_with fail
  go_loop [3, 4] (fun n t => ∃ k : Nat, k ≤ 8 ∧ t = .int .i64 (7 - (k : Int)) ∧ n = .int .u64 (wordN l off k : Nat)) (fun _ t => ((intOf t) + 1).toNat)
  case atStart => exact ⟨0, by omega, rfl, rfl⟩
  case round =>
    obtain ⟨k, hk, rfl, rfl⟩ := hrel
    by_cases hlt : k < 8
    · have e1 : (7 - (k : Int)).toNat = 7 - k := by omega
      have hc := HC.out (7 - k) (by omega)
      have h8 := H8.out (off + (7 - k))
      have hlo : (0 : Int) ≤ 7 - (k : Int) := by omega
      have hhi : 7 - (k : Int) < (len : Int) := by omega
      generalize hv : l.getD (off + (7 - k)) 0 = v at hc h8
      have HV := Lib.hid hv
      clear hv
      go_wp2_with (first | ((first | ((with_reducible show wpList _ _ _ (_ :: _) _ _); first | refine wl_val rfl (ex_or_u64 rfl rfl rfl) ?_ | refine wl_val rfl (ex_shl_u64 rfl rfl rfl ?_) ?_ | refine wl_val rfl (ex_ixaddr1 rfl rfl rfl ?_) ?_ | ((first | refine wl_val rfl (ex_move rfl rfl) ?_ | refine wl_val rfl (ex_assign rfl rfl) ?_); try simp only [Act.eval, Array.getD_eq_getD_getElem?, List.getElem?_toArray, List.getElem?_cons_succ, List.getElem?_cons_zero, Option.getD_some, Act.put, List.setIfInBounds_toArray, List.set_cons_zero, List.set_cons_succ]))) <;> (first | ((with_reducible show wpList _ _ _ _ _ _); try simp only [Act.put, List.setIfInBounds_toArray, List.set_cons_zero, List.set_cons_succ]) | ((with_reducible show wpD _ _ _ _ _ _ _); try simp only [Act.put, List.setIfInBounds_toArray, List.set_cons_zero, List.set_cons_succ]) | (with_reducible show wpN _ _ _ _ _ _) | (with_reducible show Code.wp _ _ _ _ _) | (clear hH; intro w hH; (try simp only [List.nil_append, List.cons_append] at hH); (try simp only [Act.put, List.setIfInBounds_toArray, List.set_cons_zero, List.set_cons_succ] at hH ⊢)) | first | with_reducible assumption | omega | (simp only [List.length_set, List.length_replicate]; omega) | (simp; done) | (simp; omega))) | fail)
      refine ⟨⟨k + 1, by omega, by congr 1; omega, ?_⟩, by simp [intOf]; omega⟩
      rw [wordN, HV.out]
    · obtain rfl : k = 8 := by omega
      go_wp2_with fail
      go_ret
      exact ⟨rfl, rfl⟩

def fromL (l : List Nat) : List Nat :=
  [wordL l 0 % 2251799813685248,
   (wordL l 0 / 2 ^ 51 ||| wordL l 8 * 2 ^ 13 % 18446744073709551616) % 18446744073709551616 % 2251799813685248,
   (wordL l 8 / 2 ^ 38 ||| wordL l 16 * 2 ^ 26 % 18446744073709551616) % 18446744073709551616 % 2251799813685248,
   (wordL l 16 / 2 ^ 25 ||| wordL l 24 * 2 ^ 39 % 18446744073709551616) % 18446744073709551616 % 2251799813685248,
   wordL l 24 / 2 ^ 12 % 2251799813685248]

@[simp] theorem fromL_len (l : List Nat) : (fromL l).length = 5 := rfl

theorem cellsC {W w : World} {bs : List Blk} (hH : Has W w bs) {i b : Nat} {l : List Nat} {k : IntKind} {T : TypeId} (hb : bs[i]? = some (b, C k l, T)) (off n : Nat) (hn : off + n ≤ l.length) :
    ∀ j, j < n → w.cell? ⟨b, off + j, none⟩ = some (.int k (l.getD (off + j) 0 : Nat)) := fun j hj => by
  rw [cell_of_row w b (off + j) _ _ _ (hH.get hb)]; exact C_get (by omega)

theorem word_has {l : List Nat} (hl8 : ∀ i, l.getD i 0 < 256) {off len cap : Nat} (hlen : len = 8 ∨ 8 < len) (hcap : len < 100) (hoff : off + 8 ≤ l.length) {W : World} {bs : List Blk} (i : Nat) {b : Nat} {T : TypeId} (hb : bs[i]? = some (b, C .u8 l, T)) :
    RetH W bs 50 #[.slice (some ⟨b, off, none⟩) len cap] (.int .u64 (wordL l off : Nat)) :=
  ⟨fun w hW => (word_any l hl8 off len cap hlen hcap b w (cellsC hW hb off 8 hoff)).mono fun e w' h => ⟨h.1, h.2 ▸ Below.refl _ _⟩⟩

set_option maxRecDepth 100000 in
set_option maxHeartbeats 400000 in
theorem from_any {l : List Nat} (hl : l.length = 32) (hl8 : ∀ i, l.getD i 0 < 256) : Ret 22 #[.agg (C .u8 l)] (.agg (C .u64 (fromL l))) := by
  refine ⟨fun w => ?_⟩
  obtain ⟨W, hW⟩ : ∃ W, W = w := ⟨_, rfl⟩
  have hH := Has.nil W
  rw [← hW]
  clear hW
  have H8 := Lib.hid hl8
  clear hl8
  go_enter Try.func22, Try.ntmps22
  apply wp_seq_k; intro K1 hK1
  apply wp_region_lit
  refine wl_boxA rfl rfl rfl hH ?_
  clear hH; intro b1 w1 hH
  refine wl_allocA rfl rfl z31 hH ?_
  clear hH; intro b2 w2 hH
  simp only [Act.put, List.setIfInBounds_toArray, List.set_cons_zero, List.set_cons_succ]
  go_wp2_with fail
  refine wp_draw 12 [] (by kernel_rfl) hH ?_
  go_wp2_with (first | ((first | ((with_reducible show wpList _ _ _ (_ :: _) _ _); first | refine wl_storerowC 0 rfl rfl rfl rfl hH rfl ?_ ?_ ?_ | refine wl_storerowC 1 rfl rfl rfl rfl hH rfl ?_ ?_ ?_ | refine wl_val rfl (ex_mask_u64 rfl rfl rfl) ?_ | refine wl_val rfl (ex_and_u64 rfl rfl rfl) ?_ | refine wl_val rfl (ex_or_u64 rfl rfl rfl) ?_ | refine wl_val rfl (ex_shr_u64 rfl rfl rfl ?_) ?_ | refine wl_val rfl (ex_shl_u64 rfl rfl rfl ?_) ?_ | refine wl_val rfl (ex_build rfl (b29_5 _ _ _ _ _)) ?_ | refine wl_val rfl (ex_build rfl (b29_2 _ _)) ?_ | refine wl_val rfl (ex_build rfl (b29_1 _)) ?_ | refine wl_val rfl (ex_build rfl (b31_0)) ?_ | refine wl_val rfl (ex_build rfl (b31_1 ?_)) ?_ | ((first | refine wl_val rfl (ex_move rfl rfl) ?_ | refine wl_val rfl (ex_assign rfl rfl) ?_); try simp only [Act.eval, Array.getD_eq_getD_getElem?, List.getElem?_toArray, List.getElem?_cons_succ, List.getElem?_cons_zero, Option.getD_some, Act.put, List.setIfInBounds_toArray, List.set_cons_zero, List.set_cons_succ])) | ((with_reducible show wpD _ _ _ _ _ (_ :: _) _); first | refine wd_callH rfl rfl (f := 50) rfl (args1 _ _) (word_has H8.out ?_ ?_ ?_ 1 rfl) ?_ | ((first | refine wd_val rfl (ex_assign rfl rfl) ?_); try simp only [Act.eval, Array.getD_eq_getD_getElem?, List.getElem?_toArray, List.getElem?_cons_succ, List.getElem?_cons_zero, Option.getD_some, Act.put, List.setIfInBounds_toArray, List.set_cons_zero, List.set_cons_succ]) | refine wd_skip rfl ?_ | (refine wd_val (v := ?_) rfl ?_ ?_; rotate_left; focus (intro w; go_simp; try with_reducible rfl))) | ((with_reducible show wpD _ _ _ _ _ _ _); refine wd_done ?_; try dsimp only) | ((with_reducible show wpN _ _ _ _ _ _); refine wn_done ?_; try dsimp only)) <;> (first | ((with_reducible show wpList _ _ _ _ _ _); try simp only [Act.put, List.setIfInBounds_toArray, List.set_cons_zero, List.set_cons_succ]) | ((with_reducible show wpD _ _ _ _ _ _ _); try simp only [Act.put, List.setIfInBounds_toArray, List.set_cons_zero, List.set_cons_succ]) | (with_reducible show wpN _ _ _ _ _ _) | (with_reducible show Code.wp _ _ _ _ _) | (clear hH; intro w hH; (try simp only [List.nil_append, List.cons_append] at hH); (try simp only [Act.put, List.setIfInBounds_toArray, List.set_cons_zero, List.set_cons_succ] at hH ⊢)) | first | with_reducible assumption | omega | (simp only [List.length_set, List.length_replicate]; omega) | (simp; done) | (simp; omega))) | fail)
  refine ret_cell 0 rfl rfl hH rfl rfl rfl ⟨?_, hH.below⟩
  rfl
end Go.Proofs.Ytmbbdblmengdhaa
