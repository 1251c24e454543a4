/- Plain: what ref.small computes. -/
import Derived.Test.YtmbbdblmengdhaaV0
import Derived.Test.YtmbbdblmengdhaaR3
import Derived.Test.YtmbbdblmengdhaaN0
set_option linter.unusedSimpArgs false
set_option linter.unusedVariables false
namespace Go.Proofs.Ytmbbdblmengdhaa


abbrev B16 : Nat := 65536

theorem valN_take_succ (b : Nat) : ∀ (l : List Nat) (i : Nat), valN b (l.take (i + 1)) = valN b (l.take i) + l.getD i 0 * b ^ i
  | [], i => by simp [valN]
  | x :: xs, 0 => by simp [valN]
  | x :: xs, i + 1 => by
    have ih := valN_take_succ b xs i
    rw [List.take_succ_cons, List.take_succ_cons, valN, valN, ih, List.getD_cons_succ, Nat.pow_succ, Nat.mul_add, Nat.add_assoc]
    congr 2
    rw [← Nat.mul_assoc, Nat.mul_comm b, Nat.mul_assoc, Nat.mul_comm b]

theorem crR_val {l : List Nat} (i : Nat) (h : i ≤ l.length) : valN B16 (crR (l, 0) i).1 + (crR (l, 0) i).2 * B16 ^ i = valN B16 l := by
  induction i with
  | zero => simp [crR]
  | succ i ih =>
    have ih := ih (by omega)
    have hs := valN_set B16 (crR (l, 0) i).1 i (((crR (l, 0) i).1.getD i 0 + (crR (l, 0) i).2) % 65536) (by rw [crR_len]; omega)
    simp only [crR]
    rw [← ih]
    generalize (crR (l, 0) i).1.getD i 0 = x at *
    generalize (crR (l, 0) i).2 = c at *
    generalize hv : (x + c) % 65536 = v at *
    generalize hq : (x + c) / 65536 = q at *
    have e : (x + c) = 65536 * q + v := by omega
    have e2 : (x + c) * B16 ^ i = (65536 * q + v) * B16 ^ i := by rw [e]
    rw [Nat.add_mul, Nat.add_mul, Nat.mul_assoc] at e2
    rw [Nat.pow_succ]
    have e3 : q * (B16 ^ i * B16) = 65536 * (q * B16 ^ i) := by rw [← Nat.mul_assoc, Nat.mul_comm]
    rw [e3]
    omega

theorem crR_digs {l : List Nat} (hl : l.length = 32) (hv : valN B16 l < B16 ^ 32) : (crR (l, 0) 32).1 = digs B16 32 (valN B16 l) := by
  have h16 : ∀ i, (crR (l, 0) 32).1.getD i 0 < 65536 := by
    intro j
    by_cases hj : j < 32
    · exact crR_16 32 j hj
    · rw [getD_of_ge (by simp [hl]; omega)]; omega
  have hval := crR_val (l := l) 32 (by omega)
  have hc : (crR (l, 0) 32).2 = 0 := by
    rcases Nat.eq_zero_or_pos (crR (l, 0) 32).2 with h | h
    · exact h
    · have := Nat.mul_le_mul_right (B16 ^ 32) h
      omega
  rw [hc, Nat.zero_mul, Nat.add_zero] at hval
  have := digs_val (b := B16) (by decide) (crR (l, 0) 32).1 h16
  rw [crR_len, hl, hval] at this
  exact this.symm

theorem fdR_keep (l : List Nat) (i j : Nat) (h : i ≤ j) (h2 : j < 16 ∨ 16 + i ≤ j) : (fdR l i).getD j 0 = l.getD j 0 := by
  induction i with
  | zero => rfl
  | succ i ih =>
    simp only [fdR]
    have ih := ih (by omega) (by omega)
    simp only [List.getD_eq_getElem?_getD] at ih ⊢
    rw [List.getElem?_set_ne (by omega), List.getElem?_set_ne (by omega)]
    exact ih
theorem fdR_up (l : List Nat) (hl : l.length = 32) (i j : Nat) (h1 : 16 ≤ j) (h2 : j < 16 + i) (hi : i ≤ 16) : (fdR l i).getD j 0 = 0 := by
  induction i with
  | zero => omega
  | succ i ih =>
    simp only [fdR, List.getD_eq_getElem?_getD] at ih ⊢
    by_cases hj : j = i + 16
    · subst hj
      rw [List.getElem?_set_self (by simp [hl]; omega)]; rfl
    · rw [List.getElem?_set_ne (by omega), List.getElem?_set_ne (by omega)]
      exact ih (by omega) (by omega)
theorem fdR_val {l : List Nat} (hl : l.length = 32) (i : Nat) (h : i ≤ 16) :
    valN B16 (fdR l i) + valN B16 ((l.drop 16).take i) * B16 ^ 16 = valN B16 l + 38 * valN B16 ((l.drop 16).take i) := by
  induction i with
  | zero => simp [fdR, valN]
  | succ i ih =>
    have ih := ih (by omega)
    have hx : (fdR l i).getD (i + 16) 0 = l.getD (i + 16) 0 := fdR_keep l i (i + 16) (by omega) (by omega)
    have s1 := valN_set B16 (fdR l i) i ((fdR l i).getD i 0 + 38 * (fdR l i).getD (i + 16) 0) (by rw [fdR_len]; omega)
    have s2 := valN_set B16 ((fdR l i).set i ((fdR l i).getD i 0 + 38 * (fdR l i).getD (i + 16) 0)) (i + 16) 0 (by simp [hl]; omega)
    have s3 : ((fdR l i).set i ((fdR l i).getD i 0 + 38 * (fdR l i).getD (i + 16) 0)).getD (i + 16) 0 = l.getD (i + 16) 0 := by
      rw [← hx]
      simp only [List.getD_eq_getElem?_getD]
      rw [List.getElem?_set_ne (by omega)]
    rw [s3] at s2
    simp only [fdR]
    rw [valN_take_succ]
    have hd : (l.drop 16).getD i 0 = l.getD (i + 16) 0 := by
      simp [List.getD_eq_getElem?_getD, Nat.add_comm]
    rw [hd]
    rw [hx] at s1 s2 ⊢
    generalize l.getD (i + 16) 0 = x at *
    generalize (fdR l i).getD i 0 = y at *
    generalize valN B16 ((l.drop 16).take i) = T at *
    have e1 : (y + 38 * x) * B16 ^ i = y * B16 ^ i + 38 * (x * B16 ^ i) := by rw [Nat.add_mul, Nat.mul_assoc]
    have e2 : x * B16 ^ (i + 16) = x * B16 ^ i * B16 ^ 16 := by rw [Nat.pow_add, Nat.mul_assoc]
    rw [e1] at s1
    rw [e2, Nat.zero_mul, Nat.add_zero] at s2
    rw [Nat.add_mul, Nat.mul_add]
    generalize x * B16 ^ i = z at *
    generalize y * B16 ^ i = u at *
    generalize B16 ^ 16 = M at *
    clear e1 e2 hd hx s3
    generalize z * M = zM at *
    generalize T * M = TM at *
    omega
def foldV (V : Nat) : Nat := V % B16 ^ 16 + 38 * (V / B16 ^ 16)
theorem rndL_val {l : List Nat} (hl : l.length = 32) (hv : valN B16 l < B16 ^ 32) : valN B16 (rndL l) = foldV (valN B16 l) := by
  have hd := crR_digs hl hv
  have h1 := fdR_val (l := (crR (l, 0) 32).1) (by rw [crR_len, hl]) 16 (Nat.le_refl _)
  have h2 := valN_take_drop B16 (crR (l, 0) 32).1 16 (by rw [crR_len, hl]; decide)
  have h3 : ((crR (l, 0) 32).1.drop 16).take 16 = (crR (l, 0) 32).1.drop 16 := List.take_of_length_le (by simp [hl])
  have h4 : valN B16 (crR (l, 0) 32).1 = valN B16 l := by rw [hd, val_digs, Nat.mod_eq_of_lt hv]
  have h5 : valN B16 ((crR (l, 0) 32).1.take 16) < B16 ^ 16 := by
    have := valN_lt (b := B16) (by decide) ((crR (l, 0) 32).1.take 16) (fun i => by
      by_cases hi : i < 16
      · rw [List.getD_eq_getElem?_getD, List.getElem?_take_of_lt hi, ← List.getD_eq_getElem?_getD]
        exact crR_16 32 i (by omega)
      · rw [getD_of_ge (by simp; omega)]; decide)
    rwa [List.length_take, crR_len, hl] at this
  rw [h3] at h1
  rw [h4] at h1 h2
  show valN B16 (fdR (crR (l, 0) 32).1 16) = _
  generalize valN B16 ((crR (l, 0) 32).1.take 16) = lo at *
  generalize valN B16 ((crR (l, 0) 32).1.drop 16) = hi at *
  generalize valN B16 l = V at *
  have e : V / B16 ^ 16 = hi := by rw [h2, Nat.add_mul_div_left _ _ (by decide), Nat.div_eq_of_lt h5, Nat.zero_add]
  have e' : V % B16 ^ 16 = lo := by rw [h2, Nat.add_mul_mod_self_left, Nat.mod_eq_of_lt h5]
  rw [foldV, e, e']
  rw [h2] at h1
  rw [Nat.mul_comm hi] at h1
  omega
end Go.Proofs.Ytmbbdblmengdhaa
