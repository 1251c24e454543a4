/- Plain: the program's numbers, by value: Bytes, From. -/
import Derived.Test.YtmbbdblmengdhaaV6
set_option linter.unusedSimpArgs false
set_option linter.unusedVariables false
namespace Go.Proofs.Ytmbbdblmengdhaa
open Go.RowKit

/-- x below 2^k beside y * 2^k. -/
theorem or_add {x y k : Nat} (h : x < 2 ^ k) : x ||| y * 2 ^ k = x + y * 2 ^ k := by
  have := Nat.two_pow_add_eq_or_of_lt h y
  rw [Nat.mul_comm y, Nat.or_comm, ← this, Nat.add_comm]

theorem digs_append (b m n x y : Nat) (h : x < b ^ m) : digs b (m + n) (x + b ^ m * y) = digs b m x ++ digs b n y := by
  induction m generalizing x with
  | zero =>
    have : x = 0 := by simpa using h
    subst this
    simp [digs]
  | succ m ih =>
    have hb : 0 < b := by
      rcases Nat.eq_zero_or_pos b with rfl | hb
      · simp at h
      · exact hb
    have e1 : x + b ^ (m + 1) * y = x + b * (b ^ m * y) := by rw [Nat.pow_succ, Nat.mul_comm (b ^ m) b, Nat.mul_assoc]
    rw [show m + 1 + n = (m + n) + 1 by omega, e1]
    simp only [digs, List.cons_append]
    rw [Nat.add_mul_mod_self_left, Nat.add_mul_div_left _ _ hb, ih]
    rw [Nat.div_lt_iff_lt_mul hb, ← Nat.pow_succ]
    exact h

theorem outIn_digs (x : Nat) : [x / 2 ^ (8 * 0) % 256, x / 2 ^ (8 * 1) % 256, x / 2 ^ (8 * 2) % 256, x / 2 ^ (8 * 3) % 256, x / 2 ^ (8 * 4) % 256, x / 2 ^ (8 * 5) % 256, x / 2 ^ (8 * 6) % 256, x / 2 ^ (8 * 7) % 256] = digs 256 8 x := by
  simp only [digs, Nat.div_div_eq_div_mul]
  simp

theorem outR_digs (a b c d : Nat) : outR [a, b, c, d] 4 = digs 256 8 a ++ (digs 256 8 b ++ (digs 256 8 c ++ digs 256 8 d)) := by
  rw [← outIn_digs, ← outIn_digs, ← outIn_digs, ← outIn_digs]
  simp only [outR, outIn, List.getD_cons_zero, List.getD_cons_succ]
  simp only [show List.replicate 32 0 = [0,0,0,0,0,0,0,0,0,0,0,0,0,0,0,0,0,0,0,0,0,0,0,0,0,0,0,0,0,0,0,0] from rfl]
  simp only [Nat.reduceMul, Nat.reduceAdd, List.set_cons_zero, List.set_cons_succ]
  rfl

theorem words_digs {a b c d e : Nat} (ha : a < 2251799813685248) (hb : b < 2251799813685248) (hc : c < 2251799813685248) (hd : d < 2251799813685248) (he : e < 2251799813685248) :
    outR (wordsOf [a, b, c, d, e]) 4 = digs 256 32 (a + 2251799813685248 * (b + 2251799813685248 * (c + 2251799813685248 * (d + 2251799813685248 * e)))) := by
  have w0 : (a ||| b * 2 ^ 51 % 18446744073709551616) % 18446744073709551616 = a + (b % 8192) * 2251799813685248 := by
    rw [show b * 2 ^ 51 % 18446744073709551616 = (b % 8192) * 2 ^ 51 by omega, or_add (by omega)]
    omega
  have w1 : (b / 2 ^ 13 ||| c * 2 ^ 38 % 18446744073709551616) % 18446744073709551616 = b / 8192 + (c % 67108864) * 274877906944 := by
    rw [show c * 2 ^ 38 % 18446744073709551616 = (c % 67108864) * 2 ^ 38 by omega, or_add (by omega)]
    omega
  have w2 : (c / 2 ^ 26 ||| d * 2 ^ 25 % 18446744073709551616) % 18446744073709551616 = c / 67108864 + (d % 549755813888) * 33554432 := by
    rw [show d * 2 ^ 25 % 18446744073709551616 = (d % 549755813888) * 2 ^ 25 by omega, or_add (by omega)]
    omega
  have w3 : (d / 2 ^ 39 ||| e * 2 ^ 12 % 18446744073709551616) % 18446744073709551616 = d / 549755813888 + e * 4096 := by
    rw [show e * 2 ^ 12 % 18446744073709551616 = e * 2 ^ 12 by omega, or_add (by omega)]
    omega
  have hw : wordsOf [a, b, c, d, e] = [a + (b % 8192) * 2251799813685248, b / 8192 + (c % 67108864) * 274877906944, c / 67108864 + (d % 549755813888) * 33554432, d / 549755813888 + e * 4096] := by
    simp only [wordsOf, List.getD_cons_zero, List.getD_cons_succ]
    rw [w0, w1, w2, w3]
  rw [hw, outR_digs]
  have p8 : (256 : Nat) ^ 8 = 18446744073709551616 := by decide +kernel
  rw [← digs_append 256 8 8 _ _ (by rw [p8]; omega), ← digs_append 256 8 16 _ _ (by rw [p8]; omega), ← digs_append 256 8 24 _ _ (by rw [p8]; omega), p8]
  congr 1
  omega

/-- The bytes of a number. -/
def key32 (x : Nat) : List Nat := digs 256 32 x
@[simp] theorem key32_len (x : Nat) : (key32 x).length = 32 := digs_len _ _ _

theorem bytes_of {l : List Nat} {x : Nat} (h0 : Lim l x) : bytesL l = key32 x := by
  have h : Lim (carryL l) x := by
    have := carry_lim h0.len (fun i => by have := h0.lt i; omega)
    rwa [h0.val] at this
  unfold bytesL
  generalize carryL l = f at h
  have hx := h.x_lt
  obtain ⟨a, b, c, d, e, rfl, ha, hb, hc, hd, he, hv⟩ := h.five
  have p51 : (2 : Nat) ^ 51 = 2251799813685248 := rfl
  have h19 : (a + 19) % 18446744073709551616 = a + 19 := by omega
  have hm : ∀ x y : Nat, x < 2251799813685248 → y ≤ 1 → (x + y) % 18446744073709551616 = x + y := fun x y _ _ => by omega
  unfold redW
  have e4 : tR [a, b, c, d, e] 4 = [(a + 19) % 2251799813685248, (b + (a + 19) / 2251799813685248) % 2251799813685248, (c + (b + (a + 19) / 2251799813685248) / 2251799813685248) % 2251799813685248, (d + (c + (b + (a + 19) / 2251799813685248) / 2251799813685248) / 2251799813685248) % 2251799813685248, e + (d + (c + (b + (a + 19) / 2251799813685248) / 2251799813685248) / 2251799813685248) / 2251799813685248] := by
    simp only [tR, List.getD_cons_zero, List.getD_cons_succ, List.set_cons_zero, List.set_cons_succ, p51, h19]
    generalize h1 : (a + 19) / 2251799813685248 = c1
    rw [hm b c1 hb (by omega)]
    generalize h2 : (b + c1) / 2251799813685248 = c2
    rw [hm c c2 hc (by omega)]
    generalize h3 : (c + c2) / 2251799813685248 = c3
    rw [hm d c3 hd (by omega)]
    generalize h4 : (d + c3) / 2251799813685248 = c4
    rw [hm e c4 he (by omega)]
  rw [e4]
  clear e4 hm h19
  generalize h1 : (a + 19) / 2251799813685248 = c1
  generalize h1' : (a + 19) % 2251799813685248 = r1
  generalize h2 : (b + c1) / 2251799813685248 = c2
  generalize h2' : (b + c1) % 2251799813685248 = r2
  generalize h3 : (c + c2) / 2251799813685248 = c3
  generalize h3' : (c + c2) % 2251799813685248 = r3
  generalize h4 : (d + c3) / 2251799813685248 = c4
  generalize h4' : (d + c3) % 2251799813685248 = r4
  simp only [List.getD_cons_zero, List.getD_cons_succ, List.set_cons_zero, List.set_cons_succ, p51]
  generalize h5 : (e + c4) / 2251799813685248 = c5
  generalize h5' : (e + c4) % 2251799813685248 = r5
  have b1 : r1 < 2251799813685248 := by omega
  have b2 : r2 < 2251799813685248 := by omega
  have b3 : r3 < 2251799813685248 := by omega
  have b4 : r4 < 2251799813685248 := by omega
  have b5 : r5 < 2251799813685248 := by omega
  have hc5 : c5 ≤ 1 := by omega
  have hV : a + 2251799813685248 * (b + 2251799813685248 * (c + 2251799813685248 * (d + 2251799813685248 * e))) + 19 = r1 + 2251799813685248 * (r2 + 2251799813685248 * (r3 + 2251799813685248 * (r4 + 2251799813685248 * r5))) + 57896044618658097711785492504343953926634992332820282019728792003956564819968 * c5 := by omega
  split <;> rename_i hcc
  · have : c5 = 1 := by omega
    subst this
    rw [words_digs b1 b2 b3 b4 b5, key32, ← hv]
    congr 1
    rw [pP] at *
    omega
  · have : c5 = 0 := by omega
    subst this
    rw [words_digs ha hb hc hd he, key32, ← hv]
    congr 1
    rw [pP] at *
    omega

/-! ### From -/
theorem wordN_val {l : List Nat} (hb : ∀ i, l.getD i 0 < 256) (off k : Nat) (hk : k ≤ 8) : wordN l off k = valN 256 ((l.drop (off + (8 - k))).take k) ∧ wordN l off k < 256 ^ k := by
  induction k with
  | zero => simp [wordN, valN]
  | succ k ih =>
    have ⟨ih, hlt⟩ := ih (by omega)
    have hx := hb (off + (7 - k))
    have h56 : wordN l off k < 72057594037927936 := Nat.lt_of_lt_of_le hlt (Nat.le_trans (Nat.pow_le_pow_right (by decide) (show k ≤ 7 by omega)) (by decide +kernel))
    have e1 : wordN l off (k + 1) = wordN l off k * 256 + l.getD (off + (7 - k)) 0 := by
      rw [wordN, show wordN l off k * 2 ^ 8 % 18446744073709551616 = wordN l off k * 2 ^ 8 by omega, Nat.or_comm, or_add (by simpa using hx)]
      omega
    have e2 : valN 256 ((l.drop (off + (8 - (k + 1)))).take (k + 1)) = l.getD (off + (7 - k)) 0 + 256 * valN 256 ((l.drop (off + (8 - k))).take k) := by
      rw [show off + (8 - (k + 1)) = off + (7 - k) by omega, show off + (8 - k) = off + (7 - k) + 1 by omega]
      generalize off + (7 - k) = j
      by_cases h : j < l.length
      · rw [List.drop_eq_getElem_cons h, List.take_succ_cons, valN]
        simp [h]
      · have e3 : l.drop j = [] := List.drop_eq_nil_of_le (by omega)
        have e4 : l.drop (j + 1) = [] := List.drop_eq_nil_of_le (by omega)
        rw [e3, e4]
        simp [valN, List.getElem?_eq_none (by omega : l.length ≤ j)]
    refine ⟨by rw [e1, e2, ih]; omega, ?_⟩
    rw [e1, Nat.pow_succ]
    omega
theorem wordL_val {l : List Nat} (hb : ∀ i, l.getD i 0 < 256) (off : Nat) : wordL l off = valN 256 ((l.drop off).take 8) ∧ wordL l off < 18446744073709551616 := by
  have := wordN_val hb off 8 (Nat.le_refl _)
  exact ⟨this.1, Nat.lt_of_lt_of_le this.2 (by decide +kernel)⟩
theorem from_lim {l : List Nat} (hl : l.length = 32) (hb : ∀ i, l.getD i 0 < 256) : Lim (fromL l) (valN 256 l % 2 ^ 255 % pP) := by
  have ⟨w0, b0⟩ := wordL_val hb 0
  have ⟨w1, b1⟩ := wordL_val hb 8
  have ⟨w2, b2⟩ := wordL_val hb 16
  have ⟨w3, b3⟩ := wordL_val hb 24
  have p8 : (256 : Nat) ^ 8 = 18446744073709551616 := by decide +kernel
  have hv : valN 256 l = wordL l 0 + 18446744073709551616 * (wordL l 8 + 18446744073709551616 * (wordL l 16 + 18446744073709551616 * wordL l 24)) := by
    rw [w0, w1, w2, w3]
    have s1 := valN_take_drop 256 l 8 (by omega)
    have s2 := valN_take_drop 256 (l.drop 8) 8 (by simp; omega)
    have s3 := valN_take_drop 256 (l.drop 16) 8 (by simp; omega)
    rw [List.drop_drop] at s2 s3
    have e3 : (l.drop 24).take 8 = l.drop 24 := List.take_of_length_le (by simp; omega)
    rw [p8] at s1 s2 s3
    rw [e3, List.drop_zero]
    simp only [Nat.reduceAdd] at s2 s3
    omega
  have p255 : (2 : Nat) ^ 255 = 57896044618658097711785492504343953926634992332820282019728792003956564819968 := by decide +kernel
  have p51 : (2 : Nat) ^ 51 = 2251799813685248 := rfl
  rw [hv, p255]
  unfold fromL
  generalize wordL l 0 = a at *
  generalize wordL l 8 = c at *
  generalize wordL l 16 = d at *
  generalize wordL l 24 = e at *
  clear hv w0 w1 w2 w3 p8 hb hl
  have e1 : (a / 2 ^ 51 ||| c * 2 ^ 13 % 18446744073709551616) % 18446744073709551616 % 2251799813685248 = a / 2251799813685248 + (c % 274877906944) * 8192 := by
    rw [show c * 2 ^ 13 % 18446744073709551616 = (c % 2251799813685248) * 2 ^ 13 by omega, or_add (by omega)]
    omega
  have e2 : (c / 2 ^ 38 ||| d * 2 ^ 26 % 18446744073709551616) % 18446744073709551616 % 2251799813685248 = c / 274877906944 + (d % 33554432) * 67108864 := by
    rw [show d * 2 ^ 26 % 18446744073709551616 = (d % 274877906944) * 2 ^ 26 by omega, or_add (by omega)]
    omega
  have e3 : (d / 2 ^ 25 ||| e * 2 ^ 39 % 18446744073709551616) % 18446744073709551616 % 2251799813685248 = d / 33554432 + (e % 4096) * 549755813888 := by
    rw [show e * 2 ^ 39 % 18446744073709551616 = (e % 33554432) * 2 ^ 39 by omega, or_add (by omega)]
    omega
  rw [e1, e2, e3]
  refine lim5 (by omega) (by omega) (by omega) (by omega) (by omega) ?_
  congr 1
  omega
end Go.Proofs.Ytmbbdblmengdhaa
