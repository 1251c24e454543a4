/- Plain: small numbers of both sides, by value. -/
import Derived.Test.YtmbbdblmengdhaaR7
import Derived.Test.YtmbbdblmengdhaaV9
set_option linter.unusedSimpArgs false
set_option linter.unusedVariables false
namespace Go.Proofs.Ytmbbdblmengdhaa
open Go.RowKit

theorem smR_inv (m k : Nat) (hk : k ≤ 4) : valN B16 (smR m k) = m % B16 ^ k ∧ (∀ j, k ≤ j → (smR m k).getD j 0 = 0) ∧ ∀ j, (smR m k).getD j 0 ≤ 65535 := by
  induction k with
  | zero => exact ⟨by rw [smR, valN_zero, Nat.pow_zero, Nat.mod_one], fun j _ => by simp only [smR, List.getD_eq_getElem?_getD, List.getElem?_replicate]; split <;> rfl, fun j => rep0_le⟩
  | succ k ih =>
    obtain ⟨h1, h2, h3⟩ := ih (by omega)
    refine ⟨?_, fun j hj => ?_, ?_⟩
    · simp only [smR]
      rw [valN_set0 B16 (by simp; omega) (h2 k (Nat.le_refl _)), h1, Nat.pow_succ, Nat.mod_mul, Nat.mul_comm]
    · simp only [smR]; rw [getD_set_ne2 (by omega)]; exact h2 j (by omega)
    · simp only [smR]; exact getD_le h3 (by omega)
theorem rsmall_pos {m : Nat} (hm : m < 9223372036854775808) : Ret 27 #[.int .i64 (m : Int)] (.agg (C .i64 (D16 (m % pP)))) := by
  refine rsmall_walk hm (D16_len _) ?_
  obtain ⟨v1, _, v3⟩ := smR_inv m 4 (Nat.le_refl _)
  have e : valN B16 (smR m 4) = m := by rw [v1, Nat.mod_eq_of_lt]; exact Nat.lt_of_lt_of_le hm (by decide +kernel)
  have := small_any (l := smR m 4) (by simp) (fun i => by have := v3 i; omega) (by rw [e, pow32]; omega)
  rwa [e] at this

/-- A whole number's place modulo p. -/
def intP (n : Int) : Nat := (n % (pP : Int)).toNat
theorem intP_pos (m : Nat) : intP (m : Int) = m % pP := by unfold intP; omega
theorem intP_neg {m : Nat} (hm : m < 9223372036854775808) : ((0 + (pP - m % pP)) % pP + (pP - 1)) % pP = intP (-(m : Int) - 1) := by
  have hp : pP = 57896044618658097711785492504343953926634992332820282019728792003956564819949 := rfl
  unfold intP
  rw [Nat.mod_eq_of_lt (show m < pP by omega)]
  by_cases hm0 : m = 0
  · subst hm0; decide +kernel
  · rw [Nat.mod_eq_of_lt (show 0 + (pP - m) < pP by omega)]
    have h1 : (0 + (pP - m) + (pP - 1)) % pP = pP - m - 1 := by
      rw [show 0 + (pP - m) + (pP - 1) = (pP - m - 1) + pP by omega, Nat.add_mod_right, Nat.mod_eq_of_lt (by omega)]
    rw [h1]
    have h2 : (-(m : Int) - 1) % (pP : Int) = ((pP - m - 1 : Nat) : Int) := by
      rw [← Int.add_emod_right, Int.emod_eq_of_lt (by omega) (by omega)]; omega
    rw [h2]; omega
theorem small_int {n : Int} (hn : (Lit.int .i64 n).wf = true) : ∃ s, Lim s (intP n) ∧ Ret 26 #[.int .i64 n] (.agg (C .u64 s)) ∧ Ret 27 #[.int .i64 n] (.agg (C .i64 (D16 (intP n)))) := by
  have hb : -9223372036854775808 ≤ n ∧ n < 9223372036854775808 := by
    simp [Lit.wf, IntKind.min, IntKind.max, IntKind.signed, IntKind.bits] at hn; omega
  obtain ⟨h0, h1⟩ := hb
  by_cases hn : 0 ≤ n
  · obtain ⟨m, rfl⟩ : ∃ m : Nat, n = m := ⟨n.toNat, by omega⟩
    rw [intP_pos]
    exact ⟨numL m, num_lim (by omega), small_pos (by unfold Lt63; omega), rsmall_pos (by omega)⟩
  · obtain ⟨m, rfl⟩ : ∃ m : Nat, n = -(m : Int) - 1 := ⟨(-n - 1).toNat, by omega⟩
    have hm : m < 9223372036854775808 := by omega
    have s2 := sub_lim (sub_lim zero_lim (num_lim hm)) one_lim
    rw [intP_neg hm] at s2
    refine ⟨_, s2, small_neg (by unfold Lt63; exact hm) rfl, ?_⟩
    rw [← intP_neg hm]
    have q1 := rsub_any (m := 0) (n := m % pP) (by decide) (Nat.le_of_lt (Nat.mod_lt _ (by decide)))
    rw [D16_0] at q1
    have q2 := rsub_any (m := (0 + (pP - m % pP)) % pP) (n := 1) (by have := Nat.mod_lt (0 + (pP - m % pP)) (show 0 < pP by decide); omega) (by decide)
    rw [D16_1] at q2
    exact rsmall_neg_walk hm rfl (D16_len _) (D16_len _) (D16_len _) (rsmall_pos hm) q1 q2
end Go.Proofs.Ytmbbdblmengdhaa
