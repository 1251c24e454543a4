/- Plain: the program's product, by value. -/
import Derived.Test.YtmbbdblmengdhaaV7
import Derived.Test.YtmbbdblmengdhaaV5
set_option linter.unusedSimpArgs false
set_option linter.unusedVariables false
namespace Go.Proofs.Ytmbbdblmengdhaa
open Go.RowKit

def Wk (s : List Nat) (k : Nat) : Nat := s.getD (k * 2) 0 * 18446744073709551616 + s.getD (k * 2 + 1) 0
def wides (s : List Nat) : List Nat := [Wk s 0, Wk s 1, Wk s 2, Wk s 3, Wk s 4]
theorem wides_getD (s : List Nat) {k : Nat} (h : k < 5) : (wides s).getD k 0 = Wk s k := by
  match k, h with
  | 0, _ => rfl
  | 1, _ => rfl
  | 2, _ => rfl
  | 3, _ => rfl
  | 4, _ => rfl

/-- Words of 64 bits. -/
def Lt64 (s : List Nat) : Prop := ∀ i, s.getD i 0 < 18446744073709551616
theorem getD_set_eq {l : List Nat} {i v : Nat} (h : i < l.length) : (l.set i v).getD i 0 = v := by simp [h]
theorem getD_set_ne2 {l : List Nat} {i j v : Nat} (h : i ≠ j) : (l.set i v).getD j 0 = l.getD j 0 := by
  simp only [List.getD_eq_getElem?_getD, List.getElem?_set_ne h]
theorem Lt64.set {s : List Nat} (h : Lt64 s) {i v : Nat} (hv : v < 18446744073709551616) : Lt64 (s.set i v) := by
  intro j
  by_cases hj : i = j
  · subst hj
    by_cases hl : i < s.length
    · rw [getD_set_eq hl]; exact hv
    · rw [List.getD_eq_getElem?_getD, List.getElem?_eq_none (by simp; omega)]; decide
  · rw [getD_set_ne2 hj]; exact h j

theorem plus_lt {s : List Nat} (h : Lt64 s) (off x y : Nat) : Lt64 (plusL s off x y) := by
  unfold plusL
  exact (h.set (Nat.mod_lt _ (by decide))).set (Nat.mod_lt _ (by decide))
theorem plus_W {s : List Nat} (hl : s.length = 10) (h : Lt64 s) {k x y : Nat} (hk : k < 5) (hb : Wk s k + x * y < 340282366920938463463374607431768211456) (j : Nat) :
    Wk (plusL s (k * 2) x y) j = if j = k then Wk s k + x * y else Wk s j := by
  have h1 := h (k * 2)
  have h2 := h (k * 2 + 1)
  unfold plusL
  by_cases hj : j = k
  · subst hj
    rw [if_pos rfl]
    unfold Wk at hb ⊢
    rw [gs2 (by omega), gs1 (by omega), gs3]
    generalize s.getD (j * 2) 0 = hi at *
    generalize s.getD (j * 2 + 1) 0 = lo at *
    generalize x * y = z at *
    omega
  · rw [if_neg hj]
    unfold Wk
    rw [getD_set_ne2 (by omega), getD_set_ne2 (by omega), getD_set_ne2 (by omega), getD_set_ne2 (by omega)]
theorem plus_wides {s : List Nat} (hl : s.length = 10) (h : Lt64 s) {k x y : Nat} (hk : k < 5) (hb : Wk s k + x * y < 340282366920938463463374607431768211456) :
    wides (plusL s (k * 2) x y) = (wides s).set k ((wides s).getD k 0 + x * y) := by
  have hp := plus_W hl h hk hb
  generalize plusL s (k * 2) x y = s' at hp
  unfold wides
  rw [hp 0, hp 1, hp 2, hp 3, hp 4]
  have hk' : k = 0 ∨ k = 1 ∨ k = 2 ∨ k = 3 ∨ k = 4 := by omega
  generalize x * y = z
  rcases hk' with rfl | rfl | rfl | rfl | rfl <;> simp


theorem mulK_lt {i j : Nat} (hi : i < 5) (hj : j < 5) : mulK i j < 5 := by
  unfold mulK; split <;> omega
theorem mulY_bd {b : List Nat} (hb : ∀ i, b.getD i 0 < 2251799813685248) (i j : Nat) : mulY b i j ≤ 42784196460019712 := by
  have := hb j
  unfold mulY; split
  · rw [Nat.mod_eq_of_lt (by omega)]; omega
  · omega

theorem step_hi {T T0 V x y R1 R2 R P q : Nat} (h3 : T + P * q = T0 + x * V * R2) (e : R1 * R2 = R * (P + 19)) : T + x * (y * 19) * R + P * (q + x * y * R) = T0 + x * (V + y * R1) * R2 := by
  have e2 : x * (V + y * R1) * R2 = x * V * R2 + x * y * (R1 * R2) := by grind
  rw [e2, e]
  grind
theorem step_lo {T T0 V x y R1 R2 Pq : Nat} (h3 : T + Pq = T0 + x * V * R2) : T + x * y * (R2 * R1) + Pq = T0 + x * (V + y * R1) * R2 := by grind
theorem p5 : (pP + 19 : Nat) = 2251799813685248 ^ 5 := by decide +kernel
theorem mulIn_inv {a b s : List Nat} (hla : a.length = 5) (hlb : b.length = 5) (ha : ∀ i, a.getD i 0 < 2251799813685248) (hb : ∀ i, b.getD i 0 < 2251799813685248) {U : Nat} (hU : 2251799813685248 * 42784196460019712 ≤ U) (hU2 : 26 * U < 340282366920938463463374607431768211456) {i n : Nat} (hi : i < 5) (hn : n ≤ 20)
    (hl : s.length = 10) (h : Lt64 s) (hw : ∀ k, k < 5 → Wk s k ≤ n * U) (j : Nat) (hj : j ≤ 5) :
    Lt64 (mulIn a b i s j) ∧ (∀ k, k < 5 → Wk (mulIn a b i s j) k ≤ (n + j) * U) ∧
    ∃ q, valN 2251799813685248 (wides (mulIn a b i s j)) + pP * q = valN 2251799813685248 (wides s) + a.getD i 0 * valN 2251799813685248 (b.take j) * 2251799813685248 ^ i := by
  induction j with
  | zero =>
    have e : mulIn a b i s 0 = s := rfl
    rw [e, Nat.add_zero, List.take_zero, valN, Nat.mul_zero, Nat.zero_mul]
    exact ⟨h, hw, 0, by rw [Nat.mul_zero]⟩
  | succ j ih =>
    obtain ⟨h1, h2, q, h3⟩ := ih (by omega)
    have hlen : (mulIn a b i s j).length = 10 := by rw [mulIn_len, hl]
    have hk := mulK_lt hi (show j < 5 by omega)
    have hy := mulY_bd hb i j
    have hx := ha i
    have hxy : a.getD i 0 * mulY b i j ≤ U := Nat.le_trans (Nat.mul_le_mul (show _ ≤ 2251799813685248 by omega) hy) hU
    have hwk := h2 _ hk
    have hno : Wk (mulIn a b i s j) (mulK i j) + a.getD i 0 * mulY b i j < 340282366920938463463374607431768211456 := by
      have : (n + j) * U ≤ 25 * U := Nat.mul_le_mul_right _ (by omega)
      generalize (n + j) * U = Z at *
      generalize a.getD i 0 * mulY b i j = Y at *
      omega
    have hW := plus_W hlen h1 hk hno
    refine ⟨plus_lt h1 _ _ _, fun k hk5 => ?_, ?_⟩
    · show Wk (plusL (mulIn a b i s j) (mulK i j * 2) (a.getD i 0) (mulY b i j)) k ≤ _
      rw [hW k]
      have e : (n + (j + 1)) * U = (n + j) * U + U := by rw [← Nat.add_assoc, Nat.add_mul, Nat.one_mul]
      have := h2 k hk5
      rw [e]
      generalize (n + j) * U = Z at *
      generalize a.getD i 0 * mulY b i j = Y at *
      split <;> omega
    · have hv := plus_wides hlen h1 hk hno
      show ∃ q, valN 2251799813685248 (wides (plusL (mulIn a b i s j) (mulK i j * 2) (a.getD i 0) (mulY b i j))) + pP * q = _
      rw [hv, valN_add 2251799813685248 (by simpa [wides] using hk), valN_take_succ]
      generalize valN 2251799813685248 (wides (mulIn a b i s j)) = T at *
      generalize valN 2251799813685248 (wides s) = T0 at *
      generalize valN 2251799813685248 (b.take j) = V at *
      have hbj := hb j
      unfold mulK mulY
      by_cases h5 : 5 ≤ i + j
      · rw [if_pos h5, if_pos h5, show b.getD j 0 * 19 % 18446744073709551616 = b.getD j 0 * 19 by omega]
        refine ⟨q + a.getD i 0 * b.getD j 0 * 2251799813685248 ^ (i + j - 5), ?_⟩
        refine step_hi h3 ?_
        rw [← Nat.pow_add, p5, ← Nat.pow_add]
        congr 1; omega
      · rw [if_neg h5, if_neg h5]
        refine ⟨q, ?_⟩
        rw [Nat.pow_add]
        exact step_lo h3
theorem mulOut_inv {a b : List Nat} (hla : a.length = 5) (hlb : b.length = 5) (ha : ∀ i, a.getD i 0 < 2251799813685248) (hb : ∀ i, b.getD i 0 < 2251799813685248) (i : Nat) (hi : i ≤ 5) :
    Lt64 (mulOut a b i) ∧ (∀ k, k < 5 → Wk (mulOut a b i) k ≤ (5 * i) * 162259276829213363391578010288128) ∧
    ∃ q, valN 2251799813685248 (wides (mulOut a b i)) + pP * q = valN 2251799813685248 (a.take i) * valN 2251799813685248 b := by
  induction i with
  | zero =>
    refine ⟨fun i => ?_, fun k hk => ?_, 0, by simp [mulOut, wides, Wk, valN]⟩
    · simp only [mulOut, List.getD_eq_getElem?_getD, List.getElem?_replicate]; split <;> decide
    · simp only [mulOut, Wk, List.getD_eq_getElem?_getD, List.getElem?_replicate]
      split <;> split <;> simp
  | succ i ih =>
    obtain ⟨h1, h2, q, h3⟩ := ih (by omega)
    obtain ⟨g1, g2, q', g3⟩ := mulIn_inv (U := 162259276829213363391578010288128) hla hlb ha hb (by decide +kernel) (by decide +kernel) (show i < 5 by omega) (show 5 * i ≤ 20 by omega) (mulOut_len a b i) h1 h2 5 (Nat.le_refl _)
    refine ⟨g1, g2, q + q', ?_⟩
    show valN 2251799813685248 (wides (mulIn a b i (mulOut a b i) 5)) + _ = _
    rw [List.take_of_length_le (by omega)] at g3
    rw [valN_take_succ, Nat.add_mul, ← h3, Nat.mul_add]
    have e : a.getD i 0 * 2251799813685248 ^ i * valN 2251799813685248 b = a.getD i 0 * valN 2251799813685248 b * 2251799813685248 ^ i := by
      rw [Nat.mul_assoc, Nat.mul_assoc, Nat.mul_comm (2251799813685248 ^ i)]
    rw [e]
    omega

theorem finR_inv {s : List Nat} (hl : s.length = 10) (h : Lt64 s) (hw : ∀ k, k < 5 → Wk s k ≤ 25 * 162259276829213363391578010288128) (i : Nat) (hi : i ≤ 5) :
    (∀ j, i * 2 ≤ j → (finR s i).1.getD j 0 = s.getD j 0) ∧ (∀ j, (finR s i).2.1.getD j 0 < 2251799813685248) ∧ (∀ j, i ≤ j → (finR s i).2.1.getD j 0 = 0) ∧ (finR s i).2.2 < 9223372036854775808 ∧
    valN 2251799813685248 (finR s i).2.1 + (finR s i).2.2 * 2251799813685248 ^ i = valN 2251799813685248 ((wides s).take i) := by
  induction i with
  | zero =>
    refine ⟨fun _ _ => rfl, fun j => ?_, fun j _ => ?_, by simp [finR], by simp [finR, valN]⟩
    · simp only [finR]
      match j with
      | 0 => decide
      | 1 => decide
      | 2 => decide
      | 3 => decide
      | 4 => decide
      | n + 5 => show 0 < 2251799813685248; omega
    · simp only [finR]
      match j with
      | 0 => rfl
      | 1 => rfl
      | 2 => rfl
      | 3 => rfl
      | 4 => rfl
      | n + 5 => rfl
  | succ i ih =>
    obtain ⟨h1, h2, h3, h4, h5⟩ := ih (by omega)
    have hlen := finR_len2 s i
    have hlo := h1 (i * 2 + 1) (by omega)
    have hhi := h1 (i * 2) (by omega)
    have blo := h (i * 2 + 1)
    have bhi := h (i * 2)
    have hW := hw i (by omega)
    rw [valN_take_succ, wides_getD s (by omega), ← h5]
    unfold Wk at hW ⊢
    simp only [finR, finStep]
    rw [hlo, hhi]
    generalize hc : (finR s i).2.2 = c at *
    generalize s.getD (i * 2 + 1) 0 = lo at *
    generalize hH : s.getD (i * 2) 0 = hi' at *
    have e0 : (hi' + (lo + c) / 18446744073709551616) % 18446744073709551616 = hi' + (lo + c) / 18446744073709551616 := by omega
    rw [e0]
    have hbi : hi' ≤ 300000000000000 := by omega
    have e1 : ((lo + c) % 18446744073709551616 / 2 ^ 51 ||| (hi' + (lo + c) / 18446744073709551616) * 2 ^ 13 % 18446744073709551616) % 18446744073709551616 = (hi' * 18446744073709551616 + lo + c) / 2251799813685248 := by
      rw [show (hi' + (lo + c) / 18446744073709551616) * 2 ^ 13 % 18446744073709551616 = (hi' + (lo + c) / 18446744073709551616) * 2 ^ 13 by omega, or_add (by omega)]
      omega
    rw [e1]
    have e2 : (lo + c) % 18446744073709551616 % 2251799813685248 = (hi' * 18446744073709551616 + lo + c) % 2251799813685248 := by omega
    rw [e2]
    have hz := h3 i (Nat.le_refl _)
    refine ⟨fun j hj => ?_, fun j => ?_, fun j hj => ?_, by omega, ?_⟩
    · rw [getD_set_ne2 (by omega), getD_set_ne2 (by omega)]; exact h1 j (by omega)
    · by_cases e : i = j
      · subst e; rw [getD_set_eq (by omega)]; omega
      · rw [getD_set_ne2 e]; exact h2 j
    · rw [getD_set_ne2 (by omega)]; exact h3 j (by omega)
    · rw [valN_set0 2251799813685248 (by omega) hz, Nat.pow_succ]
      generalize (2251799813685248 : Nat) ^ i = R at *
      obtain ⟨X, hX⟩ : ∃ X, X = hi' * 18446744073709551616 + lo := ⟨_, rfl⟩
      rw [← hX]
      have e3 : (X + c) % 2251799813685248 * R + (X + c) / 2251799813685248 * (R * 2251799813685248) = (X + c) * R := by
        have := Nat.div_add_mod (X + c) 2251799813685248
        generalize (X + c) / 2251799813685248 = u at *
        generalize (X + c) % 2251799813685248 = v at *
        rw [← this]; grind
      rw [Nat.add_assoc, e3, Nat.add_mul]
      omega

theorem mulFin_inv {o : List Nat} (hl : o.length = 5) (h : ∀ i, o.getD i 0 < 2251799813685248) {c : Nat} (hc : c < 9223372036854775808) :
    (mulFin o c).length = 5 ∧ (∀ i, (mulFin o c).getD i 0 < 9223372036854775808) ∧ valN 2251799813685248 (mulFin o c) = valN 2251799813685248 o + 19 * c := by
  obtain ⟨a, b, d, e, f, rfl⟩ := len5 hl
  have ha : a < 2251799813685248 := h 0
  have hb : b < 2251799813685248 := h 1
  have hd : d < 2251799813685248 := h 2
  have he : e < 2251799813685248 := h 3
  have hf : f < 2251799813685248 := h 4
  have e0 : ((c * 19 / 18446744073709551616 + (a + c * 19 % 18446744073709551616) / 18446744073709551616) % 18446744073709551616 * 2 ^ 13 % 18446744073709551616 ||| (a + c * 19 % 18446744073709551616) % 18446744073709551616 / 2 ^ 51) % 18446744073709551616 = (a + 19 * c) / 2251799813685248 := by
    rw [show (c * 19 / 18446744073709551616 + (a + c * 19 % 18446744073709551616) / 18446744073709551616) % 18446744073709551616 * 2 ^ 13 % 18446744073709551616 = (c * 19 / 18446744073709551616 + (a + c * 19 % 18446744073709551616) / 18446744073709551616) * 2 ^ 13 by omega, Nat.or_comm, or_add (by omega)]
    omega
  have e1 : (a + c * 19 % 18446744073709551616) % 18446744073709551616 % 2251799813685248 = (a + 19 * c) % 2251799813685248 := by omega
  have e2 : mulFin [a, b, d, e, f] c = [(a + 19 * c) % 2251799813685248, b + (a + 19 * c) / 2251799813685248, d, e, f] := by
    simp only [mulFin, List.getD_cons_zero, List.getD_cons_succ, List.set_cons_zero, List.set_cons_succ]
    rw [e0, e1, show (b + (a + 19 * c) / 2251799813685248) % 18446744073709551616 = b + (a + 19 * c) / 2251799813685248 by omega]
  rw [e2]
  refine ⟨rfl, fun i => ?_, by simp only [valN]; omega⟩
  match i with
  | 0 => show (a + 19 * c) % 2251799813685248 < _; omega
  | 1 => show b + (a + 19 * c) / 2251799813685248 < _; omega
  | 2 => show d < _; omega
  | 3 => show e < _; omega
  | 4 => show f < _; omega
  | n + 5 => show 0 < 9223372036854775808; omega

theorem mul_lim {l m : List Nat} {x y : Nat} (hl : Lim l x) (hm : Lim m y) : Lim (mulL l m) (x * y % pP) := by
  obtain ⟨h1, h2, q, h3⟩ := mulOut_inv hl.len hm.len hl.lt hm.lt 5 (Nat.le_refl _)
  rw [List.take_of_length_le (by have := hl.len; omega)] at h3
  obtain ⟨_, g2, _, g4, g5⟩ := finR_inv (mulOut_len l m 5) h1 h2 5 (Nat.le_refl _)
  rw [List.take_of_length_le (show (wides (mulOut l m 5)).length ≤ 5 by simp [wides])] at g5
  obtain ⟨k1, k2, k3⟩ := mulFin_inv (finR_len2 _ 5) g2 g4
  have := carry_lim k1 k2
  unfold mulL
  have hv : valN 2251799813685248 (mulFin (finR (mulOut l m 5) 5).2.1 (finR (mulOut l m 5) 5).2.2) % pP = x * y % pP := by
    rw [k3, ← hl.val, ← hm.val, ← Nat.mul_mod, ← h3, modp_add, ← g5]
    have e : (2251799813685248 : Nat) ^ 5 = pP + 19 := by decide +kernel
    rw [e, Nat.mul_add, Nat.mul_comm _ pP]
    generalize valN 2251799813685248 (finR (mulOut l m 5) 5).2.1 = A
    generalize (finR (mulOut l m 5) 5).2.2 = c
    rw [show A + (pP * c + c * 19) = A + 19 * c + pP * c by omega, modp_add]
  rw [hv] at this
  exact this
end Go.Proofs.Ytmbbdblmengdhaa
