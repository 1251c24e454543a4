/- Plain: the reference's From, Add, Mul, by value. -/
import Derived.Test.YtmbbdblmengdhaaR6
import Derived.Test.YtmbbdblmengdhaaV4
set_option linter.unusedSimpArgs false
set_option linter.unusedVariables false
namespace Go.Proofs.Ytmbbdblmengdhaa
open Go.RowKit

theorem valN_set0 (b : Nat) {l : List Nat} {i v : Nat} (hi : i < l.length) (h : l.getD i 0 = 0) : valN b (l.set i v) = valN b l + v * b ^ i := by
  have := valN_set b l i v hi
  rw [h] at this; omega
theorem valN_add (b : Nat) {l : List Nat} {i v : Nat} (hi : i < l.length) : valN b (l.set i (l.getD i 0 + v)) = valN b l + v * b ^ i := by
  have := valN_set b l i (l.getD i 0 + v) hi
  rw [Nat.add_mul] at this; omega

theorem adR_hi (a b : List Nat) (k j : Nat) (h : k ≤ j) : (adR a b k).getD j 0 = 0 := by
  induction k with
  | zero => simp only [adR, List.getD_eq_getElem?_getD, List.getElem?_replicate]; split <;> rfl
  | succ k ih =>
    have ih := ih (by omega)
    simp only [adR, List.getD_eq_getElem?_getD] at ih ⊢
    rw [List.getElem?_set_ne (by omega)]; exact ih
theorem adR_val (a b : List Nat) (k : Nat) (h : k ≤ 16) : valN B16 (adR a b k) = valN B16 (a.take k) + valN B16 (b.take k) := by
  induction k with
  | zero => simp [adR, valN, valN_zero]
  | succ k ih =>
    simp only [adR]
    rw [valN_set0 B16 (by simp; omega) (adR_hi a b k k (Nat.le_refl _)), ih (by omega), valN_take_succ, valN_take_succ, Nat.add_mul]
    omega
theorem frR_hi (l : List Nat) (k j : Nat) (h : k ≤ j) : (frR l k).getD j 0 = 0 := by
  induction k with
  | zero => simp only [frR, List.getD_eq_getElem?_getD, List.getElem?_replicate]; split <;> rfl
  | succ k ih =>
    have ih := ih (by omega)
    simp only [frR, List.getD_eq_getElem?_getD] at ih ⊢
    rw [List.getElem?_set_ne (by omega)]; exact ih
theorem pow256 (k : Nat) : B16 ^ k = 256 ^ (2 * k) := by
  rw [Nat.pow_mul]
theorem frR_val (l : List Nat) (k : Nat) (h : k ≤ 16) : valN B16 (frR l k) = valN 256 (l.take (2 * k)) := by
  induction k with
  | zero => simp [frR, valN, valN_zero]
  | succ k ih =>
    simp only [frR]
    rw [valN_set0 B16 (by simp; omega) (frR_hi l k k (Nat.le_refl _)), ih (by omega), show 2 * (k + 1) = (2 * k + 1) + 1 from rfl, valN_take_succ, valN_take_succ, pow256, Nat.add_mul, Nat.pow_succ]
    rw [Nat.mul_comm (256 ^ (2 * k)) 256, ← Nat.mul_assoc, Nat.mul_comm (l.getD (2 * k + 1) 0) 256]
    omega
theorem valN256_lt {l : List Nat} (hl : l.length = 32) (hb : ∀ i, l.getD i 0 < 256) : valN 256 l < 2 ^ 256 := by
  have := valN_lt (b := 256) (by decide) l hb
  rw [hl] at this
  exact Nat.lt_of_lt_of_le this (by decide)
theorem fromS_val {l : List Nat} (hl : l.length = 32) (hb : ∀ i, l.getD i 0 < 256) : valN B16 (fromS l) = valN 256 l % 2 ^ 255 := by
  have h1 := frR_val l 16 (Nat.le_refl _)
  rw [List.take_of_length_le (by omega)] at h1
  have h2 := valN_set B16 (frR l 16) 15 ((frR l 16).getD 15 0 % 32768) (by simp)
  have h3 := valN_take_drop B16 (frR l 16) 15 (by simp)
  have hd := fun i => frR_bd hb 16 i
  have h4 := valN_take_drop B16 ((frR l 16).drop 15) 1 (by simp)
  have h5 : valN B16 (((frR l 16).drop 15).drop 1) = 0 := valN_tail_zero B16 (fun j => by
    have := frR_hi l 16 (16 + j) (by omega)
    simp only [List.getD_eq_getElem?_getD, List.getElem?_drop] at this ⊢
    rw [show 15 + (1 + j) = 16 + j by omega]; exact this)
  have h6 : valN B16 (((frR l 16).drop 15).take 1) = (frR l 16).getD 15 0 := by
    rw [valN_take_succ]
    simp [valN, List.getD_eq_getElem?_getD]
  rw [h5, h6] at h4
  have h7 : valN B16 ((frR l 16).take 15) < B16 ^ 15 := by
    have := valN_lt (b := B16) (by decide) ((frR l 16).take 15) (fun i => by
      by_cases hi : i < 15
      · rw [List.getD_eq_getElem?_getD, List.getElem?_take_of_lt hi, ← List.getD_eq_getElem?_getD]; have := hd i; show _ < 65536; omega
      · rw [getD_of_ge (by simp; omega)]; decide)
    rwa [List.length_take, frR_len] at this
  have p15 : B16 ^ 15 = 1766847064778384329583297500742918515827483896875618958121606201292619776 := by decide +kernel
  have p255 : (2 : Nat) ^ 255 = 57896044618658097711785492504343953926634992332820282019728792003956564819968 := by decide +kernel
  unfold fromS
  have h15 := hd 15
  rw [h4] at h3
  generalize valN B16 ((frR l 16).set 15 ((frR l 16).getD 15 0 % 32768)) = S at *
  generalize valN B16 ((frR l 16).take 15) = lo at *
  generalize (frR l 16).getD 15 0 = x at *
  generalize valN B16 (frR l 16) = V at *
  rw [← h1, p255]
  rw [p15] at *
  clear h1 h4 h5 h6 hd
  simp only [Nat.mul_zero, Nat.add_zero] at h3
  have e1 : x = 32768 * (x / 32768) + x % 32768 := by omega
  have hr : x % 32768 < 32768 ∧ x / 32768 < 2 := by omega
  generalize x / 32768 = t at *
  generalize x % 32768 = r at *
  omega

theorem mrI_val (a b : List Nat) (i : Nat) {s : List Nat} (hs : s.length = 32) (hi : i < 16) (j : Nat) (hj : j ≤ 16) :
    valN B16 (mrI a b i s j) = valN B16 s + a.getD i 0 * valN B16 (b.take j) * B16 ^ i := by
  induction j with
  | zero => simp [mrI, valN]
  | succ j ih =>
    simp only [mrI]
    rw [valN_add B16 (by simp [hs]; omega), ih (by omega), valN_take_succ, Nat.pow_add]
    generalize B16 ^ i = P
    generalize B16 ^ j = R
    generalize a.getD i 0 = x
    generalize b.getD j 0 = y
    generalize valN B16 (b.take j) = T
    grind
theorem mrO_val (a b : List Nat) (hb : b.length = 16) (i : Nat) (hi : i ≤ 16) : valN B16 (mrO a b i) = valN B16 (a.take i) * valN B16 b := by
  induction i with
  | zero => simp [mrO, valN, valN_zero]
  | succ i ih =>
    simp only [mrO]
    rw [mrI_val a b i (by simp) (by omega) 16 (Nat.le_refl _), ih (by omega), List.take_of_length_le (by omega : b.length ≤ 16), valN_take_succ]
    generalize B16 ^ i = P
    generalize a.getD i 0 = x
    generalize valN B16 (a.take i) = T
    generalize valN B16 b = U
    grind

/-! ### The contracts -/
theorem rfrom_any {l : List Nat} (hl : l.length = 32) (hb : ∀ i, l.getD i 0 < 256) : Ret 25 #[.agg (C .u8 l)] (.agg (C .i64 (D16 (valN 256 l % 2 ^ 255 % pP)))) := by
  have hv := fromS_val hl hb
  refine rfrom_walk hl hb (D16_len _) ?_
  rw [← hv]
  refine small_any (by simp [fromS]) (fun i => ?_) ?_
  · have h := frR_bd hb 16
    have := getD_le (l := frR l 16) (B := 65535) h (j := 15) (v := (frR l 16).getD 15 0 % 32768) (by omega) i
    unfold fromS; omega
  · rw [hv]
    exact Nat.lt_of_lt_of_le (Nat.mod_lt _ (by decide)) (by decide +kernel)
theorem radd_any {m n : Nat} (hm : m < 2 * pP) (hn : n < 2 * pP) : Ret 34 #[.agg (C .i64 (D16 m)), .agg (C .i64 (D16 n))] (.agg (C .i64 (D16 ((m + n) % pP)))) := by
  have hv := adR_val (D16 m) (D16 n) 16 (Nat.le_refl _)
  rw [List.take_of_length_le (by simp), List.take_of_length_le (by simp), D16_val hm, D16_val hn] at hv
  refine radd_walk (D16_len _) (D16_len _) (D16_dig _) (D16_dig _) (D16_len _) ?_
  rw [← hv]
  refine small_any (by simp) ?_ ?_
  · have h : ∀ k i, (adR (D16 m) (D16 n) k).getD i 0 ≤ 131070 := by
      intro k
      induction k with
      | zero => intro i; exact rep0_le
      | succ k ih =>
        have h1 := D16_dig m k
        have h2 := D16_dig n k
        exact getD_le ih (by omega)
    intro i
    have := h 16 i; omega
  · rw [hv, pow32]; rw [pP] at hm hn; omega
theorem rmul_any {m n : Nat} (hm : m < 2 * pP) (hn : n < 2 * pP) : Ret 24 #[.agg (C .i64 (D16 m)), .agg (C .i64 (D16 n))] (.agg (C .i64 (D16 (m * n % pP)))) := by
  have hv := mrO_val (D16 m) (D16 n) (D16_len _) 16 (Nat.le_refl _)
  rw [List.take_of_length_le (by simp), D16_val hm, D16_val hn] at hv
  refine rmul_walk (D16_len _) (D16_len _) (D16_dig _) (D16_dig _) (D16_len _) ?_
  rw [← hv]
  refine small_any (by simp) (fun i => ?_) ?_
  · have := mrO_bd (D16_dig m) (D16_dig n) 16 i; omega
  · rw [hv]
    have : m * n < (2 * pP) * (2 * pP) := Nat.mul_lt_mul'' hm hn
    exact Nat.lt_trans this (by decide +kernel)
end Go.Proofs.Ytmbbdblmengdhaa
