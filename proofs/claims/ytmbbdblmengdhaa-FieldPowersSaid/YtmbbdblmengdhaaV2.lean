/- Plain: what ref.small computes, to the end. -/
import Derived.Test.YtmbbdblmengdhaaV1
set_option linter.unusedSimpArgs false
set_option linter.unusedVariables false
namespace Go.Proofs.Ytmbbdblmengdhaa

theorem pow16 : B16 ^ 16 = 115792089237316195423570985008687907853269984665640564039457584007913129639936 := by decide +kernel
theorem pow32 : B16 ^ 32 = 13407807929942597099574024998205846127479365820592393377723561443721764030073546976801874298166903427690031858186486050853753882811946569946433649006084096 := by decide +kernel
theorem foldV_4 {V : Nat} (h : V < B16 ^ 32) : foldV V < B16 ^ 32 ∧ foldV (foldV V) < B16 ^ 32 ∧ foldV (foldV (foldV V)) < B16 ^ 16 ∧ foldV (foldV (foldV (foldV V))) = foldV (foldV (foldV V)) ∧ foldV (foldV (foldV V)) % pP = V % pP := by
  have e16 := pow16
  have e32 := pow32
  have ee : B16 ^ 32 = B16 ^ 16 * B16 ^ 16 := by rw [← Nat.pow_add]
  have step : ∀ V, foldV V % pP = V % pP := by
    intro V
    have h1 : V = B16 ^ 16 * (V / B16 ^ 16) + V % B16 ^ 16 := (Nat.div_add_mod _ _).symm
    have h2 : foldV V + 2 * pP * (V / B16 ^ 16) = V := by
      simp only [foldV]
      rw [pow16, pP] at *
      generalize V / 115792089237316195423570985008687907853269984665640564039457584007913129639936 = q at *
      generalize V % 115792089237316195423570985008687907853269984665640564039457584007913129639936 = r at *
      omega
    have h3 : (foldV V + 2 * pP * (V / B16 ^ 16)) % pP = V % pP := by rw [h2]
    rw [Nat.mul_comm 2 pP, Nat.mul_assoc, Nat.add_mul_mod_self_left] at h3
    exact h3
  have hq : V / B16 ^ 16 < B16 ^ 16 := by
    rw [Nat.div_lt_iff_lt_mul (by decide), ← ee]; exact h
  have b1 : foldV V < 39 * B16 ^ 16 := by
    have := Nat.mod_lt V (show 0 < B16 ^ 16 by decide)
    simp only [foldV]; omega
  have b2 : foldV (foldV V) < B16 ^ 16 + 1445 := by
    have h1 := Nat.mod_lt (foldV V) (show 0 < B16 ^ 16 by decide)
    have h2 : foldV V / B16 ^ 16 < 39 := by rw [Nat.div_lt_iff_lt_mul (by decide)]; exact b1
    rw [foldV]; omega
  have b3 : foldV (foldV (foldV V)) < B16 ^ 16 := by
    generalize foldV (foldV V) = X at *
    simp only [foldV]
    rw [e16] at *
    omega
  have b4 : foldV (foldV (foldV (foldV V))) = foldV (foldV (foldV V)) := by
    generalize foldV (foldV (foldV V)) = X at *
    simp only [foldV]
    rw [Nat.mod_eq_of_lt b3, Nat.div_eq_of_lt b3, Nat.mul_zero, Nat.add_zero]
  refine ⟨?_, ?_, b3, b4, by rw [step, step, step]⟩
  · rw [e32]; rw [e16] at b1; omega
  · rw [e32]; rw [e16] at b2; omega

theorem rndR_succ (l : List Nat) (k : Nat) : rndR l (k + 1) = rndL (rndR l k) := rfl
theorem rndR_zero (l : List Nat) : rndR l 0 = l := rfl
theorem rndL_def (l : List Nat) : rndL l = fdR (crR (l, 0) 32).1 16 := rfl
theorem rndR_4 {l : List Nat} (hl : l.length = 32) (hv : valN B16 l < B16 ^ 32) :
    valN B16 (rndR l 4) < B16 ^ 16 ∧ valN B16 (rndR l 4) % pP = valN B16 l % pP ∧ ∀ j, 16 ≤ j → (rndR l 4).getD j 0 = 0 := by
  have ⟨f1, f2, f3, f4, f5⟩ := foldV_4 hv
  have f3' : foldV (foldV (foldV (valN B16 l))) < B16 ^ 32 := Nat.lt_of_lt_of_le f3 (by rw [pow16, pow32]; omega)
  have r1 : valN B16 (rndR l 1) = foldV (valN B16 l) := by rw [rndR_succ, rndR_zero]; exact rndL_val hl hv
  have r2 : valN B16 (rndR l 2) = foldV (foldV (valN B16 l)) := by
    rw [← r1, rndR_succ]; exact rndL_val (by rw [rndR_len, hl]) (by rw [r1]; exact f1)
  have r3 : valN B16 (rndR l 3) = foldV (foldV (foldV (valN B16 l))) := by
    rw [← r2, rndR_succ]; exact rndL_val (by rw [rndR_len, hl]) (by rw [r2]; exact f2)
  have r4 : valN B16 (rndR l 4) = foldV (foldV (foldV (foldV (valN B16 l)))) := by
    rw [← r3, rndR_succ]; exact rndL_val (by rw [rndR_len, hl]) (by rw [r3]; exact f3')
  refine ⟨by rw [r4, f4]; exact f3, by rw [r4, f4, f5], fun j hj => ?_⟩
  by_cases h : j < 32
  · rw [rndR_succ, rndL_def]; exact fdR_up _ (by rw [crR_len, rndR_len, hl]) 16 j hj (by omega) (Nat.le_refl _)
  · exact getD_of_ge (by rw [rndR_len, hl]; omega)

theorem valN_tail_zero (b : Nat) {l : List Nat} (h : ∀ j, l.getD j 0 = 0) : valN b l = 0 := by
  induction l with
  | nil => rfl
  | cons x xs ih =>
    have h0 : x = 0 := by simpa using h 0
    rw [valN, h0, ih (fun j => by simpa using h (j + 1))]; simp
theorem valN_take (b : Nat) {l : List Nat} {k : Nat} (hk : k ≤ l.length) (h : ∀ j, k ≤ j → l.getD j 0 = 0) : valN b (l.take k) = valN b l := by
  rw [valN_take_drop b l k hk, valN_tail_zero b (l := l.drop k) (fun j => by
    have := h (k + j) (by omega)
    simpa [List.getD_eq_getElem?_getD] using this)]
  simp

theorem outC_val (l : List Nat) (i : Nat) (hi : i ≤ 16) : valN B16 (outC l i).1 + (outC l i).2 * B16 ^ i = valN B16 (l.take i) ∧ ∀ j, i ≤ j → (outC l i).1.getD j 0 = 0 := by
  induction i with
  | zero => 
    refine ⟨by simp [outC, valN, valN_zero], fun j _ => ?_⟩
    simp only [outC, List.getD_eq_getElem?_getD, List.getElem?_replicate]; split <;> rfl
  | succ i ih =>
    have ⟨ih, hz⟩ := ih (by omega)
    have hs := valN_set B16 (outC l i).1 i ((l.getD i 0 + (outC l i).2) % 65536) (by rw [outC_len]; omega)
    rw [hz i (Nat.le_refl _), Nat.zero_mul, Nat.add_zero] at hs
    refine ⟨?_, fun j hj => ?_⟩
    · simp only [outC]
      rw [valN_take_succ, ← ih, hs]
      generalize l.getD i 0 = x at *
      generalize (outC l i).2 = c at *
      generalize hv : (x + c) % 65536 = v at *
      generalize hq : (x + c) / 65536 = q at *
      have e : (x + c) = 65536 * q + v := by omega
      have e2 : (x + c) * B16 ^ i = (65536 * q + v) * B16 ^ i := by rw [e]
      rw [Nat.add_mul, Nat.add_mul, Nat.mul_assoc] at e2
      rw [Nat.pow_succ]
      have e3 : q * (B16 ^ i * B16) = 65536 * (q * B16 ^ i) := by rw [← Nat.mul_assoc, Nat.mul_comm]
      rw [e3]
      omega
    · simp only [outC, List.getD_eq_getElem?_getD] at hz ⊢
      rw [List.getElem?_set_ne (by omega)]
      exact hz j (by omega)
theorem outC_digs {l : List Nat} (h : valN B16 (l.take 16) < B16 ^ 16) : (outC l 16).1 = digs B16 16 (valN B16 (l.take 16)) := by
  have h1 := (outC_val l 16 (Nat.le_refl _)).1
  have h2 : ∀ j, (outC l 16).1.getD j 0 < 65536 := by
    intro j
    by_cases hj : j < 16
    · have : ∀ i, i ≤ 16 → ∀ j, (outC l i).1.getD j 0 < 65536 := by
        intro i
        induction i with
        | zero => intro _ j; simp only [outC, List.getD_eq_getElem?_getD, List.getElem?_replicate]; split <;> simp
        | succ i ih =>
          intro hi j
          have := getD_le (l := (outC l i).1) (B := 65535) (fun j => by have := ih (by omega) j; omega) (j := i) (v := (l.getD i 0 + (outC l i).2) % 65536) (by omega) j
          simp only [outC]; omega
      exact this 16 (Nat.le_refl _) j
    · rw [getD_of_ge (by rw [outC_len]; omega)]; omega
  have hc : (outC l 16).2 = 0 := by
    rcases Nat.eq_zero_or_pos (outC l 16).2 with hz | hz
    · exact hz
    · have := Nat.mul_le_mul_right (B16 ^ 16) hz
      omega
  rw [hc, Nat.zero_mul, Nat.add_zero] at h1
  have := digs_val (b := B16) (by decide) (outC l 16).1 h2
  rw [outC_len, h1] at this
  exact this.symm
end Go.Proofs.Ytmbbdblmengdhaa
