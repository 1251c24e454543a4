/- Walks of the reference: Power, Inv. -/
import Derived.Test.YtmbbdblmengdhaaR7
import Derived.Test.YtmbbdblmengdhaaV13
import Derived.Test.YtmbbdblmengdhaaB7
set_option linter.unusedSimpArgs false
set_option linter.unusedVariables false
namespace Go.Proofs.Ytmbbdblmengdhaa
open Go.RowKit

theorem dig_bit {n k : Nat} (hk : k < 256) : decide ((D16 n).getD (k / 16) 0 / 2 ^ (k % 16) % 2 = 1) = n.testBit k := by
  have e : (D16 n).getD (k / 16) 0 = n / (2 ^ 16) ^ (k / 16) % 2 ^ 16 := digs_getD 65536 16 n _ (by omega)
  rw [e, bit_part _ 16 _ _ (by omega)]
  congr 1
  omega

set_option maxRecDepth 100000 in
set_option maxHeartbeats 1000000 in
theorem rpower_any {x n : Nat} (hx : x < pP) (hn : n < 2 ^ 256) : Ret 40 #[vR x, vR n] (vR (powV x n)) := by
  have hxl := D16_len x
  have hel := D16_len n
  have hed := D16_dig n
  have hbit : ∀ k, k < 256 → decide ((D16 n).getD (k / 16) 0 / 2 ^ (k % 16) % 2 = 1) = n.testBit k := fun k hk => dig_bit hk
  have hx2 : x < 2 * pP := by omega
  have hq : ∀ o, o < pP → Ret 24 #[vR o, vR o] (vR (mulN o o)) ∧ Ret 24 #[vR (mulN o o), vR x] (vR (mulN (mulN o o) x)) := fun o ho => ⟨rmul_ex ho ho, rmul_ex (mulN_lt _ _) hx⟩
  unfold vR at hq ⊢
  have h1 : [1, 0, 0, 0, 0, 0, 0, 0, 0, 0, 0, 0, 0, 0, 0, 0] = D16 (powV x (n / 2 ^ 256)) := by
    rw [Nat.div_eq_of_lt hn, powV_zero, D16_1]
  have H1 := Lib.hid h1
  have HQ := Lib.hid hq
  have HB := Lib.hid hbit
  obtain ⟨X, hX⟩ : ∃ X, X = D16 x := ⟨_, rfl⟩
  rw [← hX] at hxl HQ ⊢
  obtain ⟨E, hE⟩ : ∃ E, E = D16 n := ⟨_, rfl⟩
  rw [← hE] at hel hed HB ⊢
  clear hX hE hn hq hbit h1 hx hx2
  refine ⟨fun w => ?_⟩
  obtain ⟨W, hW⟩ : ∃ W, W = w := ⟨_, rfl⟩
  have hH := Has.nil W
  rw [← hW]
  clear hW
  go_enter Try.func40, Try.ntmps40
  apply wp_seq_k; intro K1 hK1
  apply wp_region_lit
  refine wl_boxA rfl rfl rfl hH ?_
  clear hH; intro b1 w hH
  simp only [Act.put, List.setIfInBounds_toArray, List.set_cons_zero, List.set_cons_succ]
  refine wl_boxA rfl rfl rfl hH ?_
  clear hH; intro b2 w hH
  simp only [Act.put, List.setIfInBounds_toArray, List.set_cons_zero, List.set_cons_succ]
  refine wl_allocA rfl rfl z35 hH ?_
  clear hH; intro b3 w hH
  simp only [Act.put, List.setIfInBounds_toArray, List.set_cons_zero, List.set_cons_succ]
  go_wp2_with (first | ((first | ((with_reducible show wpList _ _ _ (_ :: _) _ _); first | (refine wl_allocA rfl rfl z35 hH ?_; clear hH; intro b4 w hH) | ((with_reducible show wpList _ _ _ (⟨_, Op.load 3 _, _, _, _, _⟩ :: _) _ _); first | refine wl_load 0 rfl rfl rfl hH rfl (C_get ?_) ?_ | refine wl_load 1 rfl rfl rfl hH rfl (C_get ?_) ?_ | refine wl_load 2 rfl rfl rfl hH rfl (C_get ?_) ?_) | ((with_reducible show wpList _ _ _ (⟨_, Op.load 35 _, _, _, _, _⟩ :: _) _ _); first | refine wl_loadC 0 rfl rfl rfl hH rfl ?_ ?_ | refine wl_loadC 1 rfl rfl rfl hH rfl ?_ ?_ | refine wl_loadC 2 rfl rfl rfl hH rfl ?_ ?_) | refine wl_storerowC 0 rfl rfl rfl rfl hH rfl ?_ ?_ ?_ | refine wl_storerowC 1 rfl rfl rfl rfl hH rfl ?_ ?_ ?_ | refine wl_storerowC 2 rfl rfl rfl rfl hH rfl ?_ ?_ ?_ | refine wl_val rfl (ex_build rfl (b35_0)) ?_ | refine wl_val rfl (ex_build rfl (b35_1 _)) ?_ | refine wl_val rfl (ex_build rfl (b35_16 _ _ _ _ _ _ _ _ _ _ _ _ _ _ _ _)) ?_ | refine wl_val rfl (ex_ixaddr1 rfl rfl rfl ?_) ?_ | ((first | refine wl_val rfl (ex_move rfl rfl) ?_ | refine wl_val rfl (ex_assign rfl rfl) ?_); try simp only [Act.eval, Array.getD_eq_getD_getElem?, List.getElem?_toArray, List.getElem?_cons_succ, List.getElem?_cons_zero, Option.getD_some, Act.put, List.setIfInBounds_toArray, List.set_cons_zero, List.set_cons_succ]))) <;> (first | ((with_reducible show wpList _ _ _ _ _ _); try simp only [Act.put, List.setIfInBounds_toArray, List.set_cons_zero, List.set_cons_succ]) | ((with_reducible show wpD _ _ _ _ _ _ _); try simp only [Act.put, List.setIfInBounds_toArray, List.set_cons_zero, List.set_cons_succ]) | (with_reducible show wpN _ _ _ _ _ _) | (with_reducible show Code.wp _ _ _ _ _) | (clear hH; intro w hH; (try simp only [List.nil_append, List.cons_append] at hH); (try simp only [Act.put, List.setIfInBounds_toArray, List.set_cons_zero, List.set_cons_succ] at hH ⊢)) | first | with_reducible assumption | omega | (simp only [List.length_set, List.length_replicate]; omega) | (simp; done) | (simp; omega))) | fail)
  rw [H1.out] at hH
  go_loopw [6] (fun t wr => ∃ k : Nat, k ≤ 256 ∧ t = .int .i64 ((k : Int) - 1) ∧ Has W wr [(b4, C .i64 (D16 (powV x (n / 2 ^ k))), 35), (b3, C .i64 (List.replicate 16 0), 35), (b2, C .i64 E, 35), (b1, C .i64 X, 35)]) (fun t _ => (intOf t + 1).toNat)
  case atStart => exact ⟨256, by omega, rfl, hH⟩
  case round =>
    clear hH
    obtain ⟨k, hk, rfl, hH⟩ := hrel
    cases k with
    | zero =>
      have e0 : n / 2 ^ 0 = n := by rw [Nat.pow_zero, Nat.div_one]
      rw [e0] at hH
      have ho := D16_len (powV x n)
      obtain ⟨O, hO⟩ : ∃ O, O = D16 (powV x n) := ⟨_, rfl⟩
      have HO := Lib.hid hO
      rw [← hO] at hH ho
      clear hO
      go_wp2_with (first | ((first | ((with_reducible show wpList _ _ _ (_ :: _) _ _); first | refine wl_val rfl (ex_eqN rfl rfl rfl) ?_ | ((with_reducible show wpList _ _ _ (⟨_, Op.load 3 _, _, _, _, _⟩ :: _) _ _); first | refine wl_load 0 rfl rfl rfl hH rfl (C_get ?_) ?_ | refine wl_load 1 rfl rfl rfl hH rfl (C_get ?_) ?_ | refine wl_load 2 rfl rfl rfl hH rfl (C_get ?_) ?_ | refine wl_load 3 rfl rfl rfl hH rfl (C_get ?_) ?_) | ((with_reducible show wpList _ _ _ (⟨_, Op.load 35 _, _, _, _, _⟩ :: _) _ _); first | refine wl_loadC 0 rfl rfl rfl hH rfl ?_ ?_ | refine wl_loadC 1 rfl rfl rfl hH rfl ?_ ?_ | refine wl_loadC 2 rfl rfl rfl hH rfl ?_ ?_ | refine wl_loadC 3 rfl rfl rfl hH rfl ?_ ?_) | refine wl_storerowC 0 rfl rfl rfl rfl hH rfl ?_ ?_ ?_ | refine wl_storerowC 1 rfl rfl rfl rfl hH rfl ?_ ?_ ?_ | refine wl_storerowC 2 rfl rfl rfl rfl hH rfl ?_ ?_ ?_ | refine wl_storerowC 3 rfl rfl rfl rfl hH rfl ?_ ?_ ?_ | refine wl_val rfl (ex_build rfl (b35_0)) ?_ | refine wl_val rfl (ex_build rfl (b35_1 _)) ?_ | refine wl_val rfl (ex_build rfl (b35_16 _ _ _ _ _ _ _ _ _ _ _ _ _ _ _ _)) ?_ | refine wl_val rfl (ex_ixaddr1 rfl rfl rfl ?_) ?_ | ((first | refine wl_val rfl (ex_move rfl rfl) ?_ | refine wl_val rfl (ex_assign rfl rfl) ?_); try simp only [Act.eval, Array.getD_eq_getD_getElem?, List.getElem?_toArray, List.getElem?_cons_succ, List.getElem?_cons_zero, Option.getD_some, Act.put, List.setIfInBounds_toArray, List.set_cons_zero, List.set_cons_succ]))) <;> (first | ((with_reducible show wpList _ _ _ _ _ _); try simp only [Act.put, List.setIfInBounds_toArray, List.set_cons_zero, List.set_cons_succ]) | ((with_reducible show wpD _ _ _ _ _ _ _); try simp only [Act.put, List.setIfInBounds_toArray, List.set_cons_zero, List.set_cons_succ]) | (with_reducible show wpN _ _ _ _ _ _) | (with_reducible show Code.wp _ _ _ _ _) | (clear hH; intro w hH; (try simp only [List.nil_append, List.cons_append] at hH); (try simp only [Act.put, List.setIfInBounds_toArray, List.set_cons_zero, List.set_cons_succ] at hH ⊢)) | first | with_reducible assumption | omega | (simp only [List.length_set, List.length_replicate]; omega) | (simp; done) | (simp; omega))) | fail)
      refine ret_cell 1 rfl rfl hH rfl ?_ rfl ⟨by rw [HO.out], hH.below⟩
      rw [C_size]; omega
    | succ k =>
      have e : ((k + 1 : Nat) : Int) - 1 = (k : Int) := by omega
      rw [e]
      clear e
      obtain ⟨r1, r2⟩ := HQ.out _ (powV_lt x (n / 2 ^ (k + 1)))
      have hol := D16_len (powV x (n / 2 ^ (k + 1)))
      have hql := D16_len (mulN (powV x (n / 2 ^ (k + 1))) (powV x (n / 2 ^ (k + 1))))
      have hrl := D16_len (mulN (mulN (powV x (n / 2 ^ (k + 1))) (powV x (n / 2 ^ (k + 1)))) x)
      have hs := div_step n k
      have hb := HB.out k (by omega)
      have ht := bN_test n k
      have HT : Veil (n.testBit k = true → D16 (mulN (mulN (powV x (n / 2 ^ (k + 1))) (powV x (n / 2 ^ (k + 1)))) x) = D16 (powV x (n / 2 ^ k))) := ⟨fun h => by
        rw [h] at ht
        rw [hs, ← ht, bN, if_pos rfl, powV_two1]⟩
      have HF : Veil (n.testBit k = false → D16 (mulN (powV x (n / 2 ^ (k + 1))) (powV x (n / 2 ^ (k + 1)))) = D16 (powV x (n / 2 ^ k))) := ⟨fun h => by
        rw [h] at ht
        rw [hs, ← ht]
        show _ = D16 (powV x (2 * (n / 2 ^ (k + 1))))
        rw [powV_two]⟩
      have hd := hed (k / 16)
      clear hs ht
      generalize n.testBit k = bit at hb HT HF
      generalize D16 (mulN (mulN (powV x (n / 2 ^ (k + 1))) (powV x (n / 2 ^ (k + 1)))) x) = R at r2 hrl HT
      generalize D16 (mulN (powV x (n / 2 ^ (k + 1))) (powV x (n / 2 ^ (k + 1)))) = Q at r1 r2 hql HF
      generalize D16 (powV x (n / 2 ^ (k + 1))) = O at r1 hol hH
      have hgl : ∀ w, Has W w [(b4, C .i64 Q, 35), (b3, C .i64 (List.replicate 16 0), 35), (b2, C .i64 E, 35), (b1, C .i64 X, 35)] → True := fun _ _ => trivial
      clear hgl
      generalize hD : E.getD (k / 16) 0 = D at hb hd
      have HBB := Lib.hid hb
      have HDD := Lib.hid hD
      clear hb hD
      cases bit with
      | true =>
        have HE : Veil (R = D16 (powV x (n / 2 ^ k))) := ⟨HT.out rfl⟩
        clear HT HF
        go_wp2_with (first | ((first | ((with_reducible show wpList _ _ _ (_ :: _) _ _); first | refine wl_val rfl (ex_quo_i64 rfl rfl rfl ?_ ?_) ?_ | refine wl_val rfl (ex_rem_i64 rfl rfl rfl ?_) ?_ | refine wl_val rfl (ex_shr_i64 rfl rfl rfl ?_) ?_ | refine wl_val rfl (ex_conv_uint rfl rfl ?_) ?_ | refine wl_load 2 rfl rfl rfl hH rfl (C_get' ?_ HDD.out) ?_ | refine wl_val rfl (ex_eqV rfl rfl rfl HBB.out) ?_ | refine wl_callc rfl (show _ = Op.call { callee := _, args := #[Operand.tmp 12, Operand.tmp 13], argTypes := _ } from rfl) (f := 24) rfl (args2 _ _ _) (r1) hH ?_ | refine wl_callc rfl (show _ = Op.call { callee := _, args := #[Operand.tmp 25, Operand.tmp 26], argTypes := _ } from rfl) (f := 24) rfl (args2 _ _ _) (r2) hH ?_ | ((with_reducible show wpList _ _ _ (⟨_, Op.load 3 _, _, _, _, _⟩ :: _) _ _); first | refine wl_load 0 rfl rfl rfl hH rfl (C_get ?_) ?_ | refine wl_load 1 rfl rfl rfl hH rfl (C_get ?_) ?_ | refine wl_load 2 rfl rfl rfl hH rfl (C_get ?_) ?_ | refine wl_load 3 rfl rfl rfl hH rfl (C_get ?_) ?_) | ((with_reducible show wpList _ _ _ (⟨_, Op.load 35 _, _, _, _, _⟩ :: _) _ _); first | refine wl_loadC 0 rfl rfl rfl hH rfl ?_ ?_ | refine wl_loadC 1 rfl rfl rfl hH rfl ?_ ?_ | refine wl_loadC 2 rfl rfl rfl hH rfl ?_ ?_ | refine wl_loadC 3 rfl rfl rfl hH rfl ?_ ?_) | refine wl_storerowC 0 rfl rfl rfl rfl hH rfl ?_ ?_ ?_ | refine wl_storerowC 1 rfl rfl rfl rfl hH rfl ?_ ?_ ?_ | refine wl_storerowC 2 rfl rfl rfl rfl hH rfl ?_ ?_ ?_ | refine wl_storerowC 3 rfl rfl rfl rfl hH rfl ?_ ?_ ?_ | refine wl_val rfl (ex_build rfl (b35_0)) ?_ | refine wl_val rfl (ex_build rfl (b35_1 _)) ?_ | refine wl_val rfl (ex_build rfl (b35_16 _ _ _ _ _ _ _ _ _ _ _ _ _ _ _ _)) ?_ | refine wl_val rfl (ex_ixaddr1 rfl rfl rfl ?_) ?_ | ((first | refine wl_val rfl (ex_move rfl rfl) ?_ | refine wl_val rfl (ex_assign rfl rfl) ?_); try simp only [Act.eval, Array.getD_eq_getD_getElem?, List.getElem?_toArray, List.getElem?_cons_succ, List.getElem?_cons_zero, Option.getD_some, Act.put, List.setIfInBounds_toArray, List.set_cons_zero, List.set_cons_succ]))) <;> (first | ((with_reducible show wpList _ _ _ _ _ _); try simp only [Act.put, List.setIfInBounds_toArray, List.set_cons_zero, List.set_cons_succ]) | ((with_reducible show wpD _ _ _ _ _ _ _); try simp only [Act.put, List.setIfInBounds_toArray, List.set_cons_zero, List.set_cons_succ]) | (with_reducible show wpN _ _ _ _ _ _) | (with_reducible show Code.wp _ _ _ _ _) | (clear hH; intro w hH; (try simp only [List.nil_append, List.cons_append] at hH); (try simp only [Act.put, List.setIfInBounds_toArray, List.set_cons_zero, List.set_cons_succ] at hH ⊢)) | first | with_reducible assumption | omega | (simp only [List.length_set, List.length_replicate]; omega) | (simp; done) | (simp; omega))) | fail)
        refine ⟨⟨k, by omega, rfl, ?_⟩, by simp [intOf] <;> omega⟩
        rw [← HE.out]; exact hH
      | false =>
        have HE : Veil (Q = D16 (powV x (n / 2 ^ k))) := ⟨HF.out rfl⟩
        clear HT HF
        go_wp2_with (first | ((first | ((with_reducible show wpList _ _ _ (_ :: _) _ _); first | refine wl_val rfl (ex_quo_i64 rfl rfl rfl ?_ ?_) ?_ | refine wl_val rfl (ex_rem_i64 rfl rfl rfl ?_) ?_ | refine wl_val rfl (ex_shr_i64 rfl rfl rfl ?_) ?_ | refine wl_val rfl (ex_conv_uint rfl rfl ?_) ?_ | refine wl_load 2 rfl rfl rfl hH rfl (C_get' ?_ HDD.out) ?_ | refine wl_val rfl (ex_eqV rfl rfl rfl HBB.out) ?_ | refine wl_callc rfl (show _ = Op.call { callee := _, args := #[Operand.tmp 12, Operand.tmp 13], argTypes := _ } from rfl) (f := 24) rfl (args2 _ _ _) (r1) hH ?_ | refine wl_callc rfl (show _ = Op.call { callee := _, args := #[Operand.tmp 25, Operand.tmp 26], argTypes := _ } from rfl) (f := 24) rfl (args2 _ _ _) (r2) hH ?_ | ((with_reducible show wpList _ _ _ (⟨_, Op.load 3 _, _, _, _, _⟩ :: _) _ _); first | refine wl_load 0 rfl rfl rfl hH rfl (C_get ?_) ?_ | refine wl_load 1 rfl rfl rfl hH rfl (C_get ?_) ?_ | refine wl_load 2 rfl rfl rfl hH rfl (C_get ?_) ?_ | refine wl_load 3 rfl rfl rfl hH rfl (C_get ?_) ?_) | ((with_reducible show wpList _ _ _ (⟨_, Op.load 35 _, _, _, _, _⟩ :: _) _ _); first | refine wl_loadC 0 rfl rfl rfl hH rfl ?_ ?_ | refine wl_loadC 1 rfl rfl rfl hH rfl ?_ ?_ | refine wl_loadC 2 rfl rfl rfl hH rfl ?_ ?_ | refine wl_loadC 3 rfl rfl rfl hH rfl ?_ ?_) | refine wl_storerowC 0 rfl rfl rfl rfl hH rfl ?_ ?_ ?_ | refine wl_storerowC 1 rfl rfl rfl rfl hH rfl ?_ ?_ ?_ | refine wl_storerowC 2 rfl rfl rfl rfl hH rfl ?_ ?_ ?_ | refine wl_storerowC 3 rfl rfl rfl rfl hH rfl ?_ ?_ ?_ | refine wl_val rfl (ex_build rfl (b35_0)) ?_ | refine wl_val rfl (ex_build rfl (b35_1 _)) ?_ | refine wl_val rfl (ex_build rfl (b35_16 _ _ _ _ _ _ _ _ _ _ _ _ _ _ _ _)) ?_ | refine wl_val rfl (ex_ixaddr1 rfl rfl rfl ?_) ?_ | ((first | refine wl_val rfl (ex_move rfl rfl) ?_ | refine wl_val rfl (ex_assign rfl rfl) ?_); try simp only [Act.eval, Array.getD_eq_getD_getElem?, List.getElem?_toArray, List.getElem?_cons_succ, List.getElem?_cons_zero, Option.getD_some, Act.put, List.setIfInBounds_toArray, List.set_cons_zero, List.set_cons_succ]))) <;> (first | ((with_reducible show wpList _ _ _ _ _ _); try simp only [Act.put, List.setIfInBounds_toArray, List.set_cons_zero, List.set_cons_succ]) | ((with_reducible show wpD _ _ _ _ _ _ _); try simp only [Act.put, List.setIfInBounds_toArray, List.set_cons_zero, List.set_cons_succ]) | (with_reducible show wpN _ _ _ _ _ _) | (with_reducible show Code.wp _ _ _ _ _) | (clear hH; intro w hH; (try simp only [List.nil_append, List.cons_append] at hH); (try simp only [Act.put, List.setIfInBounds_toArray, List.set_cons_zero, List.set_cons_succ] at hH ⊢)) | first | with_reducible assumption | omega | (simp only [List.length_set, List.length_replicate]; omega) | (simp; done) | (simp; omega))) | fail)
        refine ⟨⟨k, by omega, rfl, ?_⟩, by simp [intOf] <;> omega⟩
        rw [← HE.out]; exact hH

theorem rinv_ex {x : Nat} (hx : x < pP) : Ret 42 #[vR x] (vR (powV x (pP - 2))) := by
  have h1 := minus_any (a := primeL) (b := D16 2) rfl (D16_len _) primeL_dig (D16_dig _)
  rw [prime_minus (by decide +kernel)] at h1
  rw [D16_2] at h1
  exact rinv_walk (D16_len _) (D16_len _) (D16_len _) h1 (rpower_any hx (by decide +kernel))
end Go.Proofs.Ytmbbdblmengdhaa
