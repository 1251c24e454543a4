/- Plain: numbers written in a base, lowest part first. -/
import Derived.Test.YtmbbdblmengdhaaA0
set_option linter.unusedSimpArgs false
set_option linter.unusedVariables false
namespace Go.Proofs.Ytmbbdblmengdhaa

def valN (b : Nat) : List Nat → Nat
  | [] => 0
  | x :: xs => x + b * valN b xs
def digs (b : Nat) : Nat → Nat → List Nat
  | 0, _ => []
  | k + 1, n => n % b :: digs b k (n / b)

@[simp] theorem digs_len (b k n : Nat) : (digs b k n).length = k := by
  induction k generalizing n with
  | zero => rfl
  | succ k ih => simp [digs, ih]
theorem digs_getD (b k n i : Nat) (h : i < k) : (digs b k n).getD i 0 = n / b ^ i % b := by
  induction k generalizing n i with
  | zero => omega
  | succ k ih =>
    cases i with
    | zero => simp [digs]
    | succ i =>
      simp only [digs, List.getD_cons_succ]
      rw [ih (n / b) i (by omega), Nat.div_div_eq_div_mul, Nat.pow_succ, Nat.mul_comm b]
theorem digs_lt {b : Nat} (hb : 0 < b) (k n i : Nat) : (digs b k n).getD i 0 < b := by
  by_cases h : i < k
  · rw [digs_getD b k n i h]; exact Nat.mod_lt _ hb
  · simp [List.getElem?_eq_none (show (digs b k n).length ≤ i by simp; omega)]; exact hb
theorem val_digs (b k n : Nat) : valN b (digs b k n) = n % b ^ k := by
  induction k generalizing n with
  | zero => simp [digs, valN, Nat.mod_one]
  | succ k ih => rw [digs, valN, ih, Nat.pow_succ, Nat.mul_comm (b ^ k) b, Nat.mod_mul]
theorem digs_val {b : Nat} (hb : 0 < b) : ∀ (l : List Nat), (∀ i, l.getD i 0 < b) → digs b l.length (valN b l) = l
  | [], _ => rfl
  | x :: xs, h => by
    have h0 : x < b := by simpa using h 0
    have ih := digs_val hb xs (fun i => by simpa using h (i + 1))
    simp only [List.length_cons, digs, valN]
    rw [Nat.add_mul_mod_self_left, Nat.mod_eq_of_lt h0, Nat.add_mul_div_left _ _ hb, Nat.div_eq_of_lt h0, Nat.zero_add, ih]
theorem digs_mod (b k n : Nat) : digs b k (n % b ^ k) = digs b k n := by
  induction k generalizing n with
  | zero => rfl
  | succ k ih =>
    simp only [digs]
    rw [Nat.pow_succ, Nat.mul_comm (b ^ k) b, Nat.mod_mul]
    congr 1
    · rw [Nat.add_mul_mod_self_left, Nat.mod_mod]
    · by_cases hb : 0 < b
      · rw [Nat.add_mul_div_left _ _ hb, Nat.div_eq_of_lt (Nat.mod_lt n hb), Nat.zero_add, ih]
      · obtain rfl : b = 0 := by omega
        simp
theorem valN_lt {b : Nat} (hb : 0 < b) : ∀ (l : List Nat), (∀ i, l.getD i 0 < b) → valN b l < b ^ l.length
  | [], _ => by simp [valN]
  | x :: xs, h => by
    have h0 : x < b := by simpa using h 0
    have ih := valN_lt hb xs (fun i => by simpa using h (i + 1))
    simp only [List.length_cons, valN, Nat.pow_succ]
    calc x + b * valN b xs < b + b * valN b xs := by omega
      _ = b * (valN b xs + 1) := by rw [Nat.mul_add, Nat.mul_one, Nat.add_comm]
      _ ≤ b * b ^ xs.length := Nat.mul_le_mul_left _ ih
      _ = b ^ xs.length * b := Nat.mul_comm _ _
theorem valN_set (b : Nat) : ∀ (l : List Nat) (i v : Nat), i < l.length → valN b (l.set i v) + l.getD i 0 * b ^ i = valN b l + v * b ^ i
  | [], i, v, h => by simp at h
  | x :: xs, 0, v, _ => by simp [valN]; omega
  | x :: xs, i + 1, v, h => by
    have ih := valN_set b xs i v (by simpa using h)
    simp only [List.set_cons_succ, valN, List.getD_cons_succ, Nat.pow_succ]
    have e1 : xs.getD i 0 * (b ^ i * b) = b * (xs.getD i 0 * b ^ i) := by rw [← Nat.mul_assoc, Nat.mul_comm]
    have e2 : v * (b ^ i * b) = b * (v * b ^ i) := by rw [← Nat.mul_assoc, Nat.mul_comm]
    rw [e1, e2, Nat.add_assoc, ← Nat.mul_add, ih, Nat.mul_add, Nat.add_assoc]
theorem valN_zero (b k : Nat) : valN b (List.replicate k 0) = 0 := by
  induction k with
  | zero => rfl
  | succ k ih => simp [List.replicate_succ, valN, ih]
theorem valN_take_drop (b : Nat) : ∀ (l : List Nat) (k : Nat), k ≤ l.length → valN b l = valN b (l.take k) + b ^ k * valN b (l.drop k)
  | l, 0, _ => by simp [valN]
  | [], k + 1, h => by simp at h
  | x :: xs, k + 1, h => by
    have ih := valN_take_drop b xs k (by simpa using h)
    simp only [List.take_succ_cons, List.drop_succ_cons, valN, Nat.pow_succ]
    rw [ih, Nat.mul_add, Nat.add_assoc, ← Nat.mul_assoc, Nat.mul_comm (b ^ k) b]
/-- Equal numbers have equal parts. -/
theorem valN_inj {b : Nat} (hb : 0 < b) {l m : List Nat} (hl : ∀ i, l.getD i 0 < b) (hm : ∀ i, m.getD i 0 < b) (hlen : l.length = m.length) (h : valN b l = valN b m) : l = m := by
  rw [← digs_val hb l hl, ← digs_val hb m hm, h, hlen]
theorem digs_inj {b k : Nat} {x y : Nat} (hx : x < b ^ k) (hy : y < b ^ k) (h : digs b k x = digs b k y) : x = y := by
  have := congrArg (valN b) h
  rwa [val_digs, val_digs, Nat.mod_eq_of_lt hx, Nat.mod_eq_of_lt hy] at this
theorem list_ext_getD {l m : List Nat} (hlen : l.length = m.length) (h : ∀ i, i < l.length → l.getD i 0 = m.getD i 0) : l = m := by
  apply List.ext_getElem hlen
  intro i h1 h2
  have := h i h1
  simpa [h1, h2] using this
end Go.Proofs.Ytmbbdblmengdhaa
