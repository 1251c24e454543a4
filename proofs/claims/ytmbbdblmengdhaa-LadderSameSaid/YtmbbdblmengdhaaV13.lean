/- Powers by bits: what they come to. -/
import Derived.Test.YtmbbdblmengdhaaA9
import Derived.Test.YtmbbdblmengdhaaV11
import Derived.Test.YtmbbdblmengdhaaV12
set_option linter.unusedSimpArgs false
set_option linter.unusedVariables false
namespace Go.Proofs.Ytmbbdblmengdhaa
open Go.RowKit

/-- A power of a number, modulo p. -/
def powV (x n : Nat) : Nat := x ^ n % pP
theorem powV_lt (x n : Nat) : powV x n < pP := Nat.mod_lt _ pP_pos
theorem powV_zero (x : Nat) : powV x 0 = 1 := by unfold powV; rw [Nat.pow_zero, Nat.mod_eq_of_lt (by decide +kernel)]
theorem powV_two (x n : Nat) : powV x (2 * n) = mulN (powV x n) (powV x n) := by
  unfold powV mulN; rw [← Nat.mul_mod, ← Nat.pow_add, Nat.two_mul]
theorem powV_two1 (x n : Nat) : powV x (2 * n + 1) = mulN (mulN (powV x n) (powV x n)) x := by
  rw [← powV_two]; unfold powV mulN; rw [Nat.pow_succ, Nat.mod_mul_mod]
def bnum (pre : List Bool) : Nat := pre.foldl (fun n b => 2 * n + bN b) 0
theorem bnum_snoc (pre : List Bool) (b : Bool) : bnum (pre ++ [b]) = 2 * bnum pre + bN b := by simp [bnum]
theorem powN_val (x : Nat) : ∀ pre : List Bool, powN x pre = powV x (bnum pre) := by
  have h : ∀ (pre : List Bool) (o m : Nat), o = powV x m → pre.foldl (fun o b => if b then o * o % pP * x % pP else o * o % pP) o = powV x (pre.foldl (fun n b => 2 * n + bN b) m) := by
    intro pre
    induction pre with
    | nil => intro o m h; exact h
    | cons b pre ih =>
      intro o m h
      rw [List.foldl_cons, List.foldl_cons]
      refine ih _ _ ?_
      subst h
      cases b
      · simp only [Bool.false_eq_true, if_false, bN, Nat.add_zero]
        rw [powV_two]; rfl
      · simp only [if_true, bN]
        rw [powV_two1]; rfl
  intro pre
  exact h pre 1 0 (powV_zero x).symm

theorem decide_bit (V r : Nat) : decide (V / 2 ^ r % 2 = 1) = V.testBit r := by rw [Nat.testBit_eq_decide_div_mod_eq]
theorem bit_part (V w q r : Nat) (h : r < w) : decide (V / (2 ^ w) ^ q % 2 ^ w / 2 ^ r % 2 = 1) = V.testBit (w * q + r) := by
  rw [decide_bit, Nat.testBit_mod_two_pow, ← Nat.pow_mul, Nat.testBit_div_two_pow]
  simp [h, Nat.add_comm]
theorem keyBit_test {l : List Nat} (hl : l.length = 32) (hb : ∀ i, l.getD i 0 < 256) {k : Nat} (hk : k < 256) : keyBit l k = (valN 256 l).testBit k := by
  unfold keyBit
  have e : l.getD (k / 8) 0 = valN 256 l / (2 ^ 8) ^ (k / 8) % 2 ^ 8 := by
    have h := digs_val (b := 256) (by decide) l hb
    rw [← digs_getD 256 l.length _ _ (by omega), h]
  rw [e, bit_part _ 8 _ _ (by omega)]
  congr 1
  omega
theorem bN_test (V k : Nat) : bN (V.testBit k) = V / 2 ^ k % 2 := by
  unfold bN
  rw [Nat.testBit_eq_decide_div_mod_eq]
  have : V / 2 ^ k % 2 < 2 := Nat.mod_lt _ (by decide)
  split <;> simp_all <;> omega
theorem div_step (V k : Nat) : V / 2 ^ k = 2 * (V / 2 ^ (k + 1)) + V / 2 ^ k % 2 := by
  have : V / 2 ^ (k + 1) = V / 2 ^ k / 2 := by rw [Nat.div_div_eq_div_mul, Nat.pow_succ]
  omega
theorem bnum_up {l : List Nat} (hl : l.length = 32) (hb : ∀ i, l.getD i 0 < 256) : ∀ m, m ≤ 256 → bnum (upBits l m) = valN 256 l / 2 ^ (256 - m) := by
  have hv := valN256_lt hl hb
  intro m
  induction m with
  | zero => intro _; rw [Nat.sub_zero, Nat.div_eq_of_lt hv]; rfl
  | succ m ih =>
    intro hm
    rw [upBits_succ, bnum_snoc, ih (by omega), keyBit_test hl hb (by omega), bN_test, show 256 - m = 256 - (m + 1) + 1 by omega, show 255 - m = 256 - (m + 1) by omega]
    exact (div_step _ _).symm
theorem bnum_all {l : List Nat} (hl : l.length = 32) (hb : ∀ i, l.getD i 0 < 256) : bnum (upBits l 256) = valN 256 l := by
  rw [bnum_up hl hb 256 (Nat.le_refl _)]; simp
theorem pow_key {a k : List Nat} {x : Nat} (ha : Lim a x) (hl : k.length = 32) (hb : ∀ i, k.getD i 0 < 256) : Lim (powL a (upBits k 256)) (powV x (valN 256 k)) := by
  have := pow_lim ha (upBits k 256)
  rwa [powN_val, bnum_all hl hb] at this

/-! ### The three keys -/
theorem pP_sub (n : Nat) (h0 : 0 < n) (h1 : n < pP) : subN 0 n = pP - n := by
  unfold subN; rw [Nat.zero_add, Nat.mod_eq_of_lt (by omega)]
end Go.Proofs.Ytmbbdblmengdhaa

/- Roots: what they come to. -/
namespace Go.Proofs.Ytmbbdblmengdhaa
open Go.RowKit

/-- The first candidate, the root of -1, the second candidate. -/
def rt0 (x : Nat) : Nat := powV x ((pP + 3) / 8)
def rtI : Nat := powV 2 ((pP - 1) / 4)
def rt1 (x : Nat) : Nat := mulN (rt0 x) rtI
def evN (r : Nat) : Nat := if r % 2 = 1 then pP - r else r
def rtF (x : Nat) : Nat := if mulN (rt0 x) (rt0 x) = x then rt0 x else rt1 x
def rootB (x : Nat) : Bool := decide (mulN (rt0 x) (rt0 x) = x) || decide (mulN (rt1 x) (rt1 x) = x)
def rootV (x : Nat) : Nat := if rootB x = true then evN (rtF x) else 0
theorem rt0_lt (x : Nat) : rt0 x < pP := powV_lt _ _
theorem rtI_lt : rtI < pP := powV_lt _ _
theorem rt1_lt (x : Nat) : rt1 x < pP := mulN_lt _ _
theorem rtF_lt (x : Nat) : rtF x < pP := by unfold rtF; split; exact rt0_lt x; exact rt1_lt x
theorem evN_lt {r : Nat} (h : r < pP) : evN r < pP := by unfold evN; split <;> omega
theorem rootV_lt (x : Nat) : rootV x < pP := by
  unfold rootV; split
  · exact evN_lt (rtF_lt x)
  · exact pP_pos
theorem pow_step (x : Nat) : mulN (powV x ((pP - 5) / 8)) x = rt0 x := by
  unfold rt0 mulN powV
  rw [Nat.mod_mul_mod, ← Nat.pow_succ, Nat.succ_eq_add_one, show (pP - 5) / 8 + 1 = (pP + 3) / 8 by decide +kernel]
theorem subN_zero {r : Nat} (h : r % 2 = 1) (hr : r < pP) : subN 0 r = pP - r := pP_sub r (by omega) hr
end Go.Proofs.Ytmbbdblmengdhaa

/- Inverses and roots, plain. -/
namespace Go.Proofs.Ytmbbdblmengdhaa

theorem toF_powV (x n : Nat) : toF (powV x n) = toF x ^ n := by rw [powV, toF_mod, toF_pow]
theorem toF_ne0' {x : Nat} (hx : x < pP) (h : x ≠ 0) : toF x ≠ 0 := toF_ne0 (by rw [Nat.mod_eq_of_lt hx]; exact h)
theorem one_lt_pP : 1 < pP := by decide +kernel
theorem mulN_inv {x : Nat} (hx : x < pP) (h : x ≠ 0) : mulN x (powV x (pP - 2)) = 1 := by
  refine toF_inj (mulN_lt _ _) one_lt_pP ?_
  rw [toF_mulN, toF_powV, toF_one, pow_inv (toF_ne0' hx h)]
theorem zero_powV {m : Nat} (h : 0 < m) : powV 0 m = 0 := by
  unfold powV
  rw [Nat.zero_pow h, Nat.zero_mod]
theorem inv_zero {x : Nat} (h : x = 0) : powV x (pP - 2) = 0 := by
  rw [h]
  exact zero_powV (by decide +kernel)
theorem div_mul {x y : Nat} (hx : x < pP) (hy : y < pP) (h : y ≠ 0) : mulN (mulN x (powV y (pP - 2))) y = x := by
  rw [mulN_assoc, mulN_comm _ y, mulN_inv hy h, mulN_one hx]
theorem inv_inv {y : Nat} (hy : y < pP) (h : y ≠ 0) : powV (powV y (pP - 2)) (pP - 2) = y := by
  refine toF_inj (powV_lt _ _) hy ?_
  have h1 := pow_inv (toF_ne0' hy h)
  have h2 : toF (powV y (pP - 2)) ≠ 0 := fun e => by
    rw [toF_powV] at e
    rw [e] at h1
    have : (1 : FP) = 0 := by rw [← h1]; grind
    have := congrArg Fin.val this
    rw [← toF_one, ← toF_zero] at this
    exact absurd this (by decide +kernel)
  have h3 := pow_inv h2
  rw [toF_powV (powV y (pP - 2)) (pP - 2)]
  rw [toF_powV] at h3 ⊢
  generalize toF y ^ (pP - 2) = i at *
  generalize i ^ (pP - 2) = j at *
  generalize toF y = t at *
  grind

/-! ### The root of a square -/
theorem pow_dbl (t : FP) (m : Nat) : t ^ (m + m) = t ^ m * t ^ m := by
  induction m with
  | zero => grind
  | succ m ih =>
    have e : t ^ (m + 1 + (m + 1)) = t ^ (m + m) * t * t := by
      rw [show m + 1 + (m + 1) = m + m + 2 by omega]
      generalize m + m = n
      grind
    have e2 : t ^ (m + 1) = t ^ m * t := by grind
    rw [e, e2, ih]; grind
theorem rtI_sq : toF rtI * toF rtI = -1 := by
  have h : (2 : Nat) ^ ((pP - 1) / 2) % pP = pP - 1 := pow_of_pm (v := pP - 1) 256 (by decide +kernel) (by decide +kernel) (by decide +kernel)
  have e : toF rtI * toF rtI = toF (2 ^ ((pP - 1) / 2)) := by
    rw [rtI, toF_powV, toF_pow, show (pP - 1) / 2 = (pP - 1) / 4 + (pP - 1) / 4 by decide +kernel]
    exact (pow_dbl _ _).symm
  rw [e, ← toF_mod, h]
  have : toF (pP - 1) + 1 = 0 := by
    rw [← toF_one, ← toF_add, show pP - 1 + 1 = pP by decide +kernel, toF_p]
  generalize toF (pP - 1) = t at *
  grind
theorem rt0_sq (x : Nat) : toF (rt0 (mulN x x)) * toF (rt0 (mulN x x)) = toF x * toF x * toF x ^ ((pP - 1) / 2) := by
  unfold rt0
  rw [toF_powV, toF_mulN]
  have e : (pP - 1) / 2 = (pP - 5) / 8 * 4 + 2 := by decide +kernel
  have e2 : (pP + 3) / 8 = (pP - 5) / 8 + 1 := by decide +kernel
  rw [e, e2]
  generalize (pP - 5) / 8 = m
  generalize toF x = t
  have h1 : (t * t) ^ (m + 1) = t ^ (m + 1) * t ^ (m + 1) := by
    induction m with
    | zero => grind
    | succ m ih => 
      have e3 : (t * t) ^ (m + 1 + 1) = (t * t) ^ (m + 1) * (t * t) := by
        generalize m + 1 = n
        generalize t * t = u
        grind
      rw [e3, ih]
      have e4 : t ^ (m + 1 + 1) = t ^ (m + 1) * t := by
        generalize m + 1 = n
        grind
      rw [e4]; grind
  rw [h1]
  have h2 : t ^ (m * 4 + 2) = t ^ m * t ^ m * t ^ m * t ^ m * t * t := by
    clear h1
    induction m with
    | zero => grind
    | succ m ih =>
      have : t ^ ((m + 1) * 4 + 2) = t ^ (m * 4 + 2) * t * t * t * t := by grind
      rw [this, ih]; grind
  rw [h2]
  have h3 : t ^ (m + 1) = t ^ m * t := by grind
  rw [h3]
  grind

theorem half_pow {t : FP} (h : t ≠ 0) : t ^ ((pP - 1) / 2) = 1 ∨ t ^ ((pP - 1) / 2) = -1 := by
  have h1 := fermat1 prime_pP (ne_dvd h)
  have e : toF (t.val ^ (pP - 1)) = 1 := by rw [← toF_mod, h1, toF_one]
  rw [toF_pow, toF_val, show pP - 1 = (pP - 1) / 2 + (pP - 1) / 2 by decide +kernel, pow_dbl] at e
  generalize t ^ ((pP - 1) / 2) = c at *
  by_cases hc : c - 1 = 0
  · exact .inl (by grind)
  · have := good.mul0 (b := c + 1) hc (by grind)
    exact .inr (by grind)
theorem toF_sq0 {x : Nat} (hx : x < pP) : x = 0 ∨ toF x ≠ 0 := by
  by_cases h : x = 0
  · exact .inl h
  · exact .inr (toF_ne0' hx h)
/-- Whose square a square is. -/
theorem sq_eq {r x : Nat} (hr : r < pP) (hx : x < pP) (h : toF r * toF r = toF x * toF x) : r = x ∨ r = subN 0 x := by
  by_cases e : toF r - toF x = 0
  · exact .inl (toF_inj hr hx (by generalize toF r = a at *; generalize toF x = b at *; grind))
  · have := good.mul0 (b := toF r + toF x) e (by generalize toF r = a at *; generalize toF x = b at *; grind)
    refine .inr (toF_inj hr (subN_lt _ _) ?_)
    rw [toF_subN (Nat.le_of_lt hx), toF_zero]
    generalize toF r = a at *; generalize toF x = b at *; grind
theorem rtF_sq {x : Nat} (hx : x < pP) : rootB (mulN x x) = true ∧ toF (rtF (mulN x x)) * toF (rtF (mulN x x)) = toF x * toF x := by
  have h0 := rt0_sq x
  have hsq : ∀ r, mulN r r = mulN x x ↔ toF r * toF r = toF x * toF x := fun r =>
    ⟨fun e => by rw [← toF_mulN, ← toF_mulN, e], fun e => toF_inj (mulN_lt _ _) (mulN_lt _ _) (by rw [toF_mulN, toF_mulN, e])⟩
  unfold rootB rtF
  by_cases hq : mulN (rt0 (mulN x x)) (rt0 (mulN x x)) = mulN x x
  · rw [if_pos hq]
    exact ⟨by simp [hq], (hsq _).1 hq⟩
  · rw [if_neg hq]
    have h1 : toF (rt1 (mulN x x)) * toF (rt1 (mulN x x)) = toF x * toF x := by
      have hI := rtI_sq
      unfold rt1
      rw [toF_mulN]
      have hne : ¬ toF (rt0 (mulN x x)) * toF (rt0 (mulN x x)) = toF x * toF x := fun e => hq ((hsq _).2 e)
      rcases toF_sq0 hx with rfl | hxn
      · exfalso
        apply hne
        rw [h0, toF_zero]
        generalize (0 : FP) ^ ((pP - 1) / 2) = c
        grind
      · rcases half_pow hxn with hc | hc
        · exfalso
          apply hne
          rw [h0, hc]; generalize toF x = b; grind
        · rw [hc] at h0
          generalize toF (rt0 (mulN x x)) = a at *
          generalize toF rtI = i at *
          generalize toF x = b at *
          grind
    exact ⟨by simp [(hsq _).2 h1], h1⟩
theorem root_sq {x : Nat} (hx : x < pP) : rootB (mulN x x) = true := (rtF_sq hx).1
theorem pP_odd : pP % 2 = 1 := by decide +kernel
theorem root_even (s : Nat) : rootV s % 2 = 0 := by
  unfold rootV evN
  have h := rtF_lt s
  have := pP_odd
  split
  · split <;> omega
  · rfl
theorem sub_zero' {x : Nat} (hx : x < pP) : subN 0 x = if x = 0 then 0 else pP - x := by
  by_cases h : x = 0
  · rw [if_pos h, h, subN_self pP_pos]
  · rw [if_neg h, pP_sub x (by omega) hx]
theorem root_sqv {x : Nat} (hx : x < pP) : rootV (mulN x x) = if x % 2 = 1 then subN 0 x else x := by
  obtain ⟨hB, hs⟩ := rtF_sq hx
  have ho := pP_odd
  unfold rootV evN
  rw [if_pos hB]
  rcases sq_eq (rtF_lt _) hx hs with h | h
  · rw [h, sub_zero' hx]
    by_cases hz : x = 0
    · subst hz; rfl
    · simp only [hz, if_false]
  · rw [h, sub_zero' hx]
    by_cases hz : x = 0
    · subst hz; rfl
    · simp only [hz, if_false]
      by_cases h2 : x % 2 = 1
      · rw [if_neg (by omega), if_pos h2]
      · rw [if_pos (by omega), if_neg h2]; omega
end Go.Proofs.Ytmbbdblmengdhaa
