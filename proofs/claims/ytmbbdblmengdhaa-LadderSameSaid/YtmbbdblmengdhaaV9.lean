/- Plain: bytes of both sides, equality and oddness by value. -/
import Derived.Test.YtmbbdblmengdhaaV8
import Derived.Test.YtmbbdblmengdhaaA8
import Derived.Test.YtmbbdblmengdhaaR2
set_option linter.unusedSimpArgs false
set_option linter.unusedVariables false
namespace Go.Proofs.Ytmbbdblmengdhaa
open Go.RowKit

theorem rbR_hi (a : List Nat) (k j : Nat) (h : 2 * k ≤ j) : (rbR a k).getD j 0 = 0 := by
  induction k with
  | zero => simp only [rbR, List.getD_eq_getElem?_getD, List.getElem?_replicate]; split <;> rfl
  | succ k ih =>
    simp only [rbR]
    rw [getD_set_ne2 (by omega), getD_set_ne2 (by omega)]; exact ih (by omega)
theorem rbR_dig (a : List Nat) (k : Nat) : ∀ i, (rbR a k).getD i 0 ≤ 255 := by
  induction k with
  | zero => intro i; exact rep0_le
  | succ k ih =>
    simp only [rbR]
    exact getD_le (getD_le ih (by omega)) (by omega)
theorem rbR_val {a : List Nat} (ha : ∀ i, a.getD i 0 < 65536) (k : Nat) (h : k ≤ 16) : valN 256 (rbR a k) = valN B16 (a.take k) := by
  induction k with
  | zero => simp [rbR, valN, valN_zero]
  | succ k ih =>
    have hk := ha k
    simp only [rbR]
    rw [valN_set0 256 (by simp; omega) (by rw [getD_set_ne2 (by omega)]; exact rbR_hi a k _ (by omega)), valN_set0 256 (by simp; omega) (rbR_hi a k _ (by omega)), ih (by omega), valN_take_succ, pow256, Nat.pow_succ]
    generalize a.getD k 0 = x at *
    generalize (256 : Nat) ^ (2 * k) = R
    have e : x = x % 256 % 256 + x / 256 % 256 * 256 := by omega
    have e2 : x * R = (x % 256 % 256 + x / 256 % 256 * 256) * R := by rw [← e]
    rw [e2, Nat.add_mul, Nat.mul_assoc, Nat.mul_comm 256 R]
    omega
theorem refBytes_D16 {n : Nat} (h : n < 2 * pP) : refBytes (D16 n) = key32 n := by
  have h1 := rbR_val (D16_dig n) 16 (Nat.le_refl _)
  rw [List.take_of_length_le (by simp), D16_val h] at h1
  have h2 := digs_val (b := 256) (by decide) (refBytes (D16 n)) (fun i => by have := rbR_dig (D16 n) 16 i; unfold refBytes; omega)
  rw [refBytes_len] at h2
  unfold refBytes at h2 ⊢
  rw [h1] at h2
  exact h2.symm
theorem p32 : (256 : Nat) ^ 32 = 115792089237316195423570985008687907853269984665640564039457584007913129639936 := by decide +kernel
theorem key32_inj {x y : Nat} (hx : x < pP) (hy : y < pP) (h : key32 x = key32 y) : x = y := by
  refine digs_inj (b := 256) (k := 32) ?_ ?_ h
  · rw [p32]; rw [pP] at hx; omega
  · rw [p32]; rw [pP] at hy; omega
theorem key32_eq {x y : Nat} (hx : x < pP) (hy : y < pP) : decide (key32 x = key32 y) = decide (x = y) :=
  decide_eq_decide.2 ⟨key32_inj hx hy, fun h => by rw [h]⟩
theorem key32_dig (x i : Nat) : (key32 x).getD i 0 < 256 := digs_lt (by decide) _ _ _
theorem key32_0 (x : Nat) : (key32 x).getD 0 0 = x % 256 := by
  show (digs 256 32 x).getD 0 0 = _
  rw [digs_getD 256 32 x 0 (by decide), Nat.pow_zero, Nat.div_one]
theorem valN_key32 {x : Nat} (h : x < pP) : valN 256 (key32 x) = x := by
  rw [key32, val_digs, Nat.mod_eq_of_lt]
  rw [p32]; rw [pP] at h; omega

theorem equal_lim {a b : List Nat} {x y : Nat} (ha : Lim a x) (hb : Lim b y) : Ret 37 #[.agg (C .u64 a), .agg (C .u64 b)] (.bool (decide (x = y))) := by
  have := equal_any ha.len hb.len
  rwa [bytes_of ha, bytes_of hb, key32_eq ha.x_lt hb.x_lt] at this
theorem odd_lim {a : List Nat} {x : Nat} (ha : Lim a x) : Ret 28 #[.agg (C .u64 a)] (.bool (decide (x % 2 = 1))) := by
  have := odd_any ha.len
  rw [bytes_of ha, key32_0] at this
  rwa [show x % 256 % 2 = x % 2 by omega] at this
theorem rbytes_D16 {n : Nat} (h : n < 2 * pP) : Ret 49 #[.agg (C .i64 (D16 n))] (.agg (C .u8 (key32 n))) := by
  have := rbytes_any (D16_len n) (D16_dig n)
  rwa [refBytes_D16 h] at this
theorem bytes_lim {a : List Nat} {x : Nat} (ha : Lim a x) : Ret 48 #[.agg (C .u64 a)] (.agg (C .u8 (key32 x))) := by
  have := bytes_any ha.len
  rwa [bytes_of ha] at this
theorem D16_0 : D16 0 = [0, 0, 0, 0, 0, 0, 0, 0, 0, 0, 0, 0, 0, 0, 0, 0] := by decide +kernel
theorem D16_1 : D16 1 = [1, 0, 0, 0, 0, 0, 0, 0, 0, 0, 0, 0, 0, 0, 0, 0] := by decide +kernel
theorem D16_2 : D16 2 = [2, 0, 0, 0, 0, 0, 0, 0, 0, 0, 0, 0, 0, 0, 0, 0] := by decide +kernel
theorem D16_p : D16 pP = primeL := by decide +kernel

theorem mul_ret {a b : List Nat} {x y : Nat} (ha : Lim a x) (hb : Lim b y) : Ret 23 #[.agg (C .u64 a), .agg (C .u64 b)] (.agg (C .u64 (mulL a b))) := mul_any ha.len hb.len ha.lt64 hb.lt64
theorem add_ret {a b : List Nat} {x y : Nat} (ha : Lim a x) (hb : Lim b y) : Ret 33 #[.agg (C .u64 a), .agg (C .u64 b)] (.agg (C .u64 (addL a b))) := add_any ha.len hb.len
theorem sub_ret {a b : List Nat} {x y : Nat} (ha : Lim a x) (hb : Lim b y) : Ret 35 #[.agg (C .u64 a), .agg (C .u64 b)] (.agg (C .u64 (subL a b))) := sub_any ha.len hb.len hb.bd
end Go.Proofs.Ytmbbdblmengdhaa
