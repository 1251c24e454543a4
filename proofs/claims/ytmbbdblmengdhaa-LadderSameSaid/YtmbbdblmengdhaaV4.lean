/- Plain: ref.small's contract, by value. -/
import Derived.Test.YtmbbdblmengdhaaR4
import Derived.Test.YtmbbdblmengdhaaV3
set_option linter.unusedSimpArgs false
set_option linter.unusedVariables false
namespace Go.Proofs.Ytmbbdblmengdhaa
open Go.RowKit

theorem primeL_val : valN B16 primeL = pP := by decide +kernel

/-- A number of the reference, as it lies in memory. -/
def D16 (n : Nat) : List Nat := digs B16 16 n
@[simp] theorem D16_len (n : Nat) : (D16 n).length = 16 := digs_len _ _ _
theorem D16_dig (n : Nat) : ∀ i, (D16 n).getD i 0 < 65536 := digs_lt (by decide) _ _
theorem D16_val {n : Nat} (h : n < 2 * pP) : valN B16 (D16 n) = n := by
  rw [D16, val_digs, Nat.mod_eq_of_lt]
  rw [pow16]; rw [pP] at h; omega
theorem D16_inj {m n : Nat} (hm : m < 2 * pP) (hn : n < 2 * pP) (h : D16 m = D16 n) : m = n := by
  rw [← D16_val hm, ← D16_val hn, h]

/-- The end of small: of four rounds' cells the number below p. -/
theorem small_end {l : List Nat} (hl : l.length = 32) (hv : valN B16 l < B16 ^ 32) :
    ∃ X, (outD (outC (rndR l 4) 16).1 16).1 = D16 X ∧ X < 2 * pP ∧ X % pP = valN B16 l % pP := by
  have ⟨h1, h2, h3⟩ := rndR_4 hl hv
  have ht := valN_take B16 (l := rndR l 4) (k := 16) (by rw [rndR_len, hl]; decide) h3
  have hc := outC_digs (l := rndR l 4) (by rw [ht]; exact h1)
  rw [ht] at hc
  have hd := outD_digs (outC (rndR l 4) 16).1 (outC_len _ _) (by rw [hc]; exact digs_lt (by decide) _ _)
  rw [hc, val_digs, Nat.mod_eq_of_lt h1] at hd
  rw [← hc] at hd
  refine ⟨_, hd, ?_, ?_⟩
  · have p255 : (2 : Nat) ^ 255 = 57896044618658097711785492504343953926634992332820282019728792003956564819968 := by decide +kernel
    rw [pow16] at h1
    rw [p255, pP]
    omega
  · rw [← h2]
    generalize valN B16 (rndR l 4) = V
    have h4 : V = 2 ^ 255 * (V / 2 ^ 255) + V % 2 ^ 255 := (Nat.div_add_mod _ _).symm
    have p255 : (2 : Nat) ^ 255 = pP + 19 := by decide +kernel
    have h5 : V % 2 ^ 255 + 19 * (V / 2 ^ 255) + pP * (V / 2 ^ 255) = V := by
      rw [p255, Nat.add_mul] at h4
      rw [p255]; omega
    have h6 : (V % 2 ^ 255 + 19 * (V / 2 ^ 255) + pP * (V / 2 ^ 255)) % pP = V % pP := by rw [h5]
    rwa [Nat.add_mul_mod_self_left] at h6
theorem ge_D16 {X : Nat} (hX : X < 2 * pP) : geR (D16 X) primeL 16 = decide (pP ≤ X) := by
  rw [geR_val (D16_dig X) primeL_dig, List.take_of_length_le (by simp), List.take_of_length_le (by simp), primeL_val, D16_val hX]
theorem minus_D16 {X : Nat} (hX : X < 2 * pP) (h : pP ≤ X) : minusL (D16 X) primeL = D16 (X - pP) := by
  rw [minus_digs (D16_len X) primeL_len (D16_dig X) primeL_dig (by rw [primeL_val, D16_val hX]; exact h), D16_val hX, primeL_val]; rfl
/-- p less a number of the reference. -/
theorem prime_minus {X : Nat} (h : X ≤ pP) : minusL primeL (D16 X) = D16 (pP - X) := by
  have hX : X < 2 * pP := by rw [pP] at h ⊢; omega
  rw [minus_digs primeL_len (D16_len X) primeL_dig (D16_dig X) (by rw [primeL_val, D16_val hX]; exact h), D16_val hX, primeL_val]; rfl

theorem small_any {l : List Nat} (hl : l.length = 32) (hb : ∀ i, l.getD i 0 ≤ 1152921504606846976) (hv : valN B16 l < B16 ^ 32) :
    Ret 55 #[.agg (C .i64 l)] (.agg (C .i64 (D16 (valN B16 l % pP)))) := by
  obtain ⟨X, hX1, hX2, hX3⟩ := small_end hl hv
  refine small_walk (o := D16 X) hl (fun k => rnd_bd hl (by decide) hb k) ⟨hX1.symm⟩ (D16_len X) ?_ (D16_len _) (D16_dig X)
  rw [← hX3]
  by_cases h : pP ≤ X
  · have h2 : X - pP < pP := by omega
    refine .inr ⟨by rw [ge_D16 hX2]; simpa using h, ?_, ?_⟩
    · rw [minus_D16 hX2 h]
      have : X % pP = X - pP := by
        rw [Nat.mod_eq_sub_mod h, Nat.mod_eq_of_lt h2]
      rw [this]
    · have := Nat.mod_lt X (show 0 < pP by decide)
      rw [ge_D16 (by omega)]; simpa using this
  · have := Nat.mod_eq_of_lt (show X < pP by omega)
    refine .inl ⟨by rw [ge_D16 hX2]; simpa using h, by rw [this]⟩
end Go.Proofs.Ytmbbdblmengdhaa
