/- Plain: ref.small's end, atLeast and minus, by value. -/
import Derived.Test.YtmbbdblmengdhaaV2
set_option linter.unusedSimpArgs false
set_option linter.unusedVariables false
namespace Go.Proofs.Ytmbbdblmengdhaa

theorem valN_set_self (b : Nat) {l : List Nat} {i v : Nat} (hi : i < l.length) (h : l.getD i 0 = v) : l.set i v = l := by
  apply list_ext_getD (by simp)
  intro j hj
  simp only [List.getD_eq_getElem?_getD] at h ⊢
  rw [List.getElem?_set]
  split
  · rename_i e; subst e; rw [h]; rfl
  · rfl

/-- The number that outD's state stands for: the carry lies on place i. -/
theorem outD_val (o : List Nat) (ho : o.length = 16) (h : ∀ i, o.getD i 0 < 65536) (i : Nat) (hi : i ≤ 15) :
    valN B16 (outD o i).1 + (outD o i).2 * B16 ^ i = valN B16 o % 2 ^ 255 + 19 * (valN B16 o / 2 ^ 255) + (outD o i).1.getD i 0 * B16 ^ i := by
  induction i with
  | zero =>
    have hs := valN_set B16 o 15 (o.getD 15 0 % 32768) (by omega)
    have hd := valN_take_drop B16 o 15 (by omega)
    have hl : valN B16 (o.take 15) < B16 ^ 15 := by
      have := valN_lt (b := B16) (by decide) (o.take 15) (fun i => by
        by_cases hi : i < 15
        · rw [List.getD_eq_getElem?_getD, List.getElem?_take_of_lt hi, ← List.getD_eq_getElem?_getD]; exact h i
        · rw [getD_of_ge (by simp; omega)]; decide)
      rwa [List.length_take, ho] at this
    have hdd : valN B16 (o.drop 15) = o.getD 15 0 := by
      have h1 : (o.drop 15) = [o.getD 15 0] := by
        apply list_ext_getD (by simp [ho])
        intro j hj
        obtain rfl : j = 0 := by simp [ho] at hj; omega
        simp [List.getD_eq_getElem?_getD]
      rw [h1]; simp [valN]
    rw [hdd] at hd
    have p15 : B16 ^ 15 = 1766847064778384329583297500742918515827483896875618958121606201292619776 := by decide +kernel
    have p255 : (2 : Nat) ^ 255 = 57896044618658097711785492504343953926634992332820282019728792003956564819968 := by decide +kernel
    have e0 : (o.set 15 (o.getD 15 0 % 32768)).getD 0 0 = o.getD 0 0 := by
      simp only [List.getD_eq_getElem?_getD]; rw [List.getElem?_set_ne (by omega)]
    simp only [outD, Nat.pow_zero, Nat.mul_one]
    rw [e0]
    generalize valN B16 (o.set 15 (o.getD 15 0 % 32768)) = S at *
    generalize valN B16 (o.take 15) = lo at *
    generalize valN B16 o = V at *
    have h15 := h 15
    generalize o.getD 15 0 = x at *
    rw [p15] at *
    rw [p255]
    have e1 : x = 32768 * (x / 32768) + x % 32768 := by omega
    have hr : x % 32768 < 32768 ∧ x / 32768 < 2 := by omega
    generalize x / 32768 = t at *
    generalize x % 32768 = r at *
    have q1 : V / 57896044618658097711785492504343953926634992332820282019728792003956564819968 = t := by omega
    have q2 : V % 57896044618658097711785492504343953926634992332820282019728792003956564819968 = lo + 1766847064778384329583297500742918515827483896875618958121606201292619776 * r := by omega
    rw [q1, q2]
    omega
  | succ i ih =>
    have ih := ih (by omega)
    have hlen := outD_len o i
    have hs := valN_set B16 (outD o i).1 i ((outD o i).2 % 65536) (by omega)
    have e0 : ((outD o i).1.set i ((outD o i).2 % 65536)).getD (i + 1) 0 = (outD o i).1.getD (i + 1) 0 := by
      simp only [List.getD_eq_getElem?_getD]; rw [List.getElem?_set_ne (by omega)]
    simp only [outD, if_pos (show i < 15 by omega)]
    rw [e0]
    generalize valN B16 o % 2 ^ 255 + 19 * (valN B16 o / 2 ^ 255) = T at *
    generalize valN B16 ((outD o i).1.set i ((outD o i).2 % 65536)) = S at *
    generalize (outD o i).2 = c at *
    generalize (outD o i).1.getD (i + 1) 0 = y at *
    generalize (outD o i).1.getD i 0 = x at *
    have e : c = 65536 * (c / 65536) + c % 65536 := by omega
    have e2 : c * B16 ^ i = (65536 * (c / 65536) + c % 65536) * B16 ^ i := by rw [← e]
    rw [Nat.add_mul, Nat.mul_assoc] at e2
    have e3 : (y + c / 65536) * B16 ^ (i + 1) = y * B16 ^ (i + 1) + 65536 * (c / 65536 * B16 ^ i) := by
      rw [Nat.add_mul, Nat.pow_succ, ← Nat.mul_assoc (c / 65536), Nat.mul_comm (c / 65536 * B16 ^ i) B16]
    rw [e3]
    omega
theorem outD_digs (o : List Nat) (ho : o.length = 16) (h : ∀ i, o.getD i 0 < 65536) : (outD o 16).1 = digs B16 16 (valN B16 o % 2 ^ 255 + 19 * (valN B16 o / 2 ^ 255)) := by
  have h1 := outD_val o ho h 15 (Nat.le_refl _)
  have hlen := outD_len o 15
  have hs := valN_set B16 (outD o 15).1 15 ((outD o 15).2 % 65536) (by omega)
  have hb := (outD_bd h 16).1
  have hV := valN_lt (b := B16) (by decide) o h
  rw [ho] at hV
  have e16 : (outD o 16).1 = (outD o 15).1.set 15 ((outD o 15).2 % 65536) := rfl
  rw [← e16] at hs
  have hW := valN_lt (b := B16) (by decide) (outD o 16).1 hb
  rw [outD_len, ho] at hW
  have p16 := pow16
  have p15 : B16 ^ 15 = 1766847064778384329583297500742918515827483896875618958121606201292619776 := by decide +kernel
  have p255 : (2 : Nat) ^ 255 = 57896044618658097711785492504343953926634992332820282019728792003956564819968 := by decide +kernel
  have hv : valN B16 (outD o 16).1 = valN B16 o % 2 ^ 255 + 19 * (valN B16 o / 2 ^ 255) := by
    clear e16
    generalize valN B16 (outD o 16).1 = X at *
    generalize valN B16 (outD o 15).1 = S at *
    generalize valN B16 o = V at *
    generalize (outD o 15).2 = c at *
    generalize (outD o 15).1.getD 15 0 = x at *
    rw [p255] at *
    rw [p15] at *
    rw [p16] at *
    omega
  have := digs_val (b := B16) (by decide) (outD o 16).1 hb
  rw [outD_len, ho, hv] at this
  exact this.symm

/-! ### atLeast, minus -/
theorem geR_val {a b : List Nat} (ha : ∀ i, a.getD i 0 < 65536) (hb : ∀ i, b.getD i 0 < 65536) (k : Nat) : geR a b k = decide (valN B16 (b.take k) ≤ valN B16 (a.take k)) := by
  induction k with
  | zero => simp [geR, valN]
  | succ k ih =>
    have lt : ∀ (l : List Nat), (∀ i, l.getD i 0 < 65536) → valN B16 (l.take k) < B16 ^ k := by
      intro l hl
      have h1 := valN_lt (b := B16) (by decide) (l.take k) (fun i => by
        by_cases hi : i < k
        · rw [List.getD_eq_getElem?_getD, List.getElem?_take_of_lt hi, ← List.getD_eq_getElem?_getD]; exact hl i
        · rw [getD_of_ge (by simp; omega)]; decide)
      exact Nat.lt_of_lt_of_le h1 (Nat.pow_le_pow_right (by decide) (by simp; omega))
    have la := lt a ha
    have lb := lt b hb
    rw [geR, valN_take_succ, valN_take_succ, ih]
    generalize valN B16 (a.take k) = A at *
    generalize valN B16 (b.take k) = Bv at *
    generalize a.getD k 0 = x at *
    generalize b.getD k 0 = y at *
    generalize B16 ^ k = P at *
    by_cases e : x = y
    · subst e; simp
    · simp only [ne_eq, e, not_false_eq_true, if_true]
      apply decide_eq_decide.2
      constructor
      · intro h
        have : (y + 1) * P ≤ x * P := Nat.mul_le_mul_right P h
        rw [Nat.add_mul] at this; omega
      · intro h
        by_cases hlt : y < x
        · exact hlt
        · have : (x + 1) * P ≤ y * P := Nat.mul_le_mul_right P (by omega)
          rw [Nat.add_mul] at this; omega
theorem minR_dig {a b : List Nat} (ha : ∀ i, a.getD i 0 < 65536) (k : Nat) : ∀ i, (minR a b k).1.getD i 0 < 65536 := by
  induction k with
  | zero => exact ha
  | succ k ih =>
    intro i
    have hb := minR_bor a b k
    have hk := ih k
    simp only [minR, minStep]
    split <;> rename_i h
    · have := getD_le (l := (minR a b k).1) (B := 65535) (fun j => by have := ih j; omega) (j := k) (v := (minR a b k).1.getD k 0 + 65536 - b.getD k 0 - (minR a b k).2) (by omega) i
      show ((minR a b k).1.set k _).getD i 0 < 65536
      omega
    · have := getD_le (l := (minR a b k).1) (B := 65535) (fun j => by have := ih j; omega) (j := k) (v := (minR a b k).1.getD k 0 - b.getD k 0 - (minR a b k).2) (by omega) i
      show ((minR a b k).1.set k _).getD i 0 < 65536
      omega
theorem minR_val {a b : List Nat} (hl : a.length = 16) (hb : ∀ i, b.getD i 0 < 65536) (k : Nat) (hk : k ≤ 16) : valN B16 (minR a b k).1 + valN B16 (b.take k) = valN B16 a + (minR a b k).2 * B16 ^ k := by
  induction k with
  | zero => simp [minR, valN]
  | succ k ih =>
    have ih := ih (by omega)
    have hbk := hb k
    have hbo := minR_bor a b k
    have hlen := minR_len a b k
    rw [valN_take_succ]
    simp only [minR, minStep]
    split <;> rename_i h
    · have hs := valN_set B16 (minR a b k).1 k ((minR a b k).1.getD k 0 + 65536 - b.getD k 0 - (minR a b k).2) (by omega)
      generalize (minR a b k).1.getD k 0 = x at *
      generalize b.getD k 0 = y at *
      generalize (minR a b k).2 = c at *
      generalize hv : x + 65536 - y - c = v at *
      have e : v + y + c = x + 65536 := by omega
      have e2 : (v + y + c) * B16 ^ k = (x + 65536) * B16 ^ k := by rw [e]
      rw [Nat.add_mul, Nat.add_mul, Nat.add_mul] at e2
      rw [Nat.pow_succ, Nat.one_mul, Nat.mul_comm (B16 ^ k) B16]
      show valN B16 ((minR a b k).1.set k v) + _ = _
      have e4 : B16 * B16 ^ k = 65536 * B16 ^ k := rfl
      omega
    · have hs := valN_set B16 (minR a b k).1 k ((minR a b k).1.getD k 0 - b.getD k 0 - (minR a b k).2) (by omega)
      generalize (minR a b k).1.getD k 0 = x at *
      generalize b.getD k 0 = y at *
      generalize (minR a b k).2 = c at *
      generalize hv : x - y - c = v at *
      have e : v + y + c = x := by omega
      have e2 : (v + y + c) * B16 ^ k = x * B16 ^ k := by rw [e]
      rw [Nat.add_mul, Nat.add_mul] at e2
      show valN B16 ((minR a b k).1.set k v) + _ = _ + 0 * _
      omega
theorem minus_digs {a b : List Nat} (hla : a.length = 16) (hlb : b.length = 16) (ha : ∀ i, a.getD i 0 < 65536) (hb : ∀ i, b.getD i 0 < 65536) (h : valN B16 b ≤ valN B16 a) :
    minusL a b = digs B16 16 (valN B16 a - valN B16 b) := by
  have h1 := minR_val (b := b) hla hb 16 (Nat.le_refl _)
  have h2 : b.take 16 = b := List.take_of_length_le (by omega)
  rw [h2] at h1
  have h3 := minR_dig (b := b) ha 16
  have h4 := valN_lt (b := B16) (by decide) (minR a b 16).1 h3
  rw [minR_len, hla] at h4
  have h5 := minR_bor a b 16
  have hv : valN B16 (minR a b 16).1 = valN B16 a - valN B16 b := by
    have : (minR a b 16).2 = 0 := by
      rcases Nat.eq_zero_or_pos (minR a b 16).2 with hz | hz
      · exact hz
      · have := Nat.mul_le_mul_right (B16 ^ 16) hz
        omega
    rw [this] at h1
    omega
  have := digs_val (b := B16) (by decide) (minR a b 16).1 h3
  rw [minR_len, hla, hv] at this
  exact this.symm
end Go.Proofs.Ytmbbdblmengdhaa
