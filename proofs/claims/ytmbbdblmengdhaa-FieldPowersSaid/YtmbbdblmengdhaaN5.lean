/- Plain: the field of 2^255 - 19, its curve and the base point's order. -/
import Derived.Test.YtmbbdblmengdhaaN0
import Derived.Test.YtmbbdblmengdhaaN2
set_option linter.unusedSimpArgs false
set_option linter.unusedVariables false
namespace Go.Proofs.Ytmbbdblmengdhaa

theorem prime_pP : Prime pP := pr57896044618658097711785492504343953926634992332820282019728792003956564819949
def lL : Nat := 7237005577332262213973186563042994240857116359379907606001950938285454250989
theorem prime_lL : Prime lL := pr7237005577332262213973186563042994240857116359379907606001950938285454250989
instance : NeZero pP := ⟨by decide +kernel⟩
theorem two_eq {p : Nat} [NeZero p] : (2 : Fin p) = 1 + 1 := by grind
abbrev FP := Fin pP
theorem pP_pos : 0 < pP := by decide +kernel
/-- A number's place modulo p. -/
def toF (n : Nat) : FP := ⟨n % pP, Nat.mod_lt _ pP_pos⟩
theorem toF_val (x : FP) : toF x.val = x := Fin.ext (Nat.mod_eq_of_lt x.isLt)
theorem val_toF {n : Nat} (h : n < pP) : (toF n).val = n := Nat.mod_eq_of_lt h
theorem toF_inj {m n : Nat} (hm : m < pP) (hn : n < pP) (h : toF m = toF n) : m = n := by
  have := congrArg Fin.val h
  rwa [val_toF hm, val_toF hn] at this
theorem toF_mod (n : Nat) : toF (n % pP) = toF n := Fin.ext (Nat.mod_mod _ _)
theorem toF_mul (m n : Nat) : toF (m * n) = toF m * toF n := Fin.ext (by
  show m * n % pP = (m % pP) * (n % pP) % pP
  exact Nat.mul_mod _ _ _)
theorem toF_add (m n : Nat) : toF (m + n) = toF m + toF n := Fin.ext (by
  show (m + n) % pP = (m % pP + n % pP) % pP
  exact Nat.add_mod _ _ _)
theorem toF_zero : toF 0 = 0 := Fin.ext (by
  show 0 % pP = _
  rw [Nat.zero_mod]; rfl)
theorem toF_one : toF 1 = 1 := Fin.ext (by
  show 1 % pP = 1 % pP
  rfl)
theorem toF_p : toF pP = 0 := Fin.ext (by
  show pP % pP = _
  rw [Nat.mod_self]; rfl)
theorem toF_sub {m n : Nat} (h : n ≤ pP) : toF (m + (pP - n)) = toF m - toF n := by
  have e : toF (m + (pP - n)) + toF n = toF m := by
    rw [← toF_add, show m + (pP - n) + n = m + pP by omega, toF_add, toF_p]; grind
  grind
theorem toF_pow (m n : Nat) : toF (m ^ n) = toF m ^ n := by
  induction n with
  | zero => rw [Nat.pow_zero, toF_one]; grind
  | succ n ih => rw [Nat.pow_succ, toF_mul, ih]; grind

def addN (x y : Nat) : Nat := (x + y) % pP
def subN (x y : Nat) : Nat := (x + (pP - y)) % pP
def mulN (x y : Nat) : Nat := x * y % pP
theorem addN_lt (x y : Nat) : addN x y < pP := Nat.mod_lt _ pP_pos
theorem subN_lt (x y : Nat) : subN x y < pP := Nat.mod_lt _ pP_pos
theorem mulN_lt (x y : Nat) : mulN x y < pP := Nat.mod_lt _ pP_pos
theorem toF_addN (x y : Nat) : toF (addN x y) = toF x + toF y := by rw [addN, toF_mod, toF_add]
theorem toF_mulN (x y : Nat) : toF (mulN x y) = toF x * toF y := by rw [mulN, toF_mod, toF_mul]
theorem toF_subN {x y : Nat} (h : y ≤ pP) : toF (subN x y) = toF x - toF y := by rw [subN, toF_mod, toF_sub h]

/-! ### The field -/
theorem toF_ne {n : Nat} (h : ¬ pP ∣ n) : toF n ≠ 0 := fun e => h (by
  have := congrArg Fin.val e
  have e2 : n % pP = 0 := this
  exact Nat.dvd_of_mod_eq_zero e2)
theorem ne_dvd {x : FP} (h : x ≠ 0) : ¬ pP ∣ x.val := fun e => h (by
  have h0 := Nat.eq_zero_of_dvd_of_lt e x.isLt
  exact Fin.ext h0)
theorem pow_inv {x : FP} (h : x ≠ 0) : x * x ^ (pP - 2) = 1 := by
  have h1 := fermat1 prime_pP (ne_dvd h)
  have e : toF (x.val ^ (pP - 1)) = 1 := by rw [← toF_mod, h1, toF_one]
  rw [toF_pow, toF_val] at e
  rw [← e]
  generalize hm : pP - 2 = m
  have hm1 : pP - 1 = m + 1 := by
    have : 2 < pP := by decide +kernel
    omega
  rw [hm1]; grind

def dN : Nat := 20800338683988658368647408995589388737092878452977063003340006470870624536394
def dF : FP := toF dN
theorem good : Good dF := by
  refine ⟨fun e => ?_, fun a ha => ⟨_, pow_inv ha⟩, ?_, fun z e => ?_⟩
  · have := congrArg Fin.val e
    rw [← toF_one, ← toF_zero] at this
    exact absurd this (by decide +kernel)
  · have e2 : (2 : FP) = toF 2 := by
      have : toF (1 + 1) = toF 1 + toF 1 := toF_add 1 1
      rw [toF_one] at this
      have h3 : toF 2 = 1 + 1 := this
      rw [h3]; exact two_eq
    rw [e2]
    exact toF_ne (by decide +kernel)
  · have hz : z ≠ 0 := by
      intro h0
      subst h0
      have e3 : dF = 0 := by rw [← e]; grind
      exact toF_ne (n := dN) (by decide +kernel) e3
    have h1 := fermat1 prime_pP (ne_dvd hz)
    have e4 : z.val ^ 2 % pP = dN := by
      have e5 : toF (z.val ^ 2) = toF dN := by rw [toF_pow, toF_val]; exact e
      have := congrArg Fin.val e5
      rw [val_toF (show dN < pP by decide +kernel)] at this
      exact this
    have h2 : dN ^ ((pP - 1) / 2) % pP = 1 := by
      rw [← e4, ← Nat.pow_mod, ← Nat.pow_mul, show 2 * ((pP - 1) / 2) = pP - 1 by decide +kernel]
      exact h1
    rw [pow_of_pm (v := pP - 1) 256 (by decide +kernel) (by decide +kernel) (by decide +kernel)] at h2
    exact absurd h2 (by decide +kernel)
theorem iv_pow (x : FP) : iv x = x ^ (pP - 2) := by
  by_cases h : x = 0
  · subst h
    rw [iv_zero]
    generalize hm : pP - 2 = m
    obtain ⟨n, rfl⟩ : ∃ n, m = n + 1 := ⟨m - 1, by
      have : 2 < pP := by decide +kernel
      omega⟩
    grind
  · refine good.cancel h ?_
    rw [good.iv h, pow_inv h]

/-! ### The base point -/
def xN : Nat := 9771384041963202563870679428059935816164187996444183106833894008023910952347
def yN : Nat := 46316835694926478169428394003475163141307993866256225615783033603165251855960
theorem on_num : (xN ^ 2 + yN ^ 2) % pP = (1 + dN * xN ^ 2 * yN ^ 2) % pP := by decide +kernel
noncomputable def baseP : Pt dF := ⟨toF xN, toF yN, by
  have h : toF (xN ^ 2 + yN ^ 2) = toF (1 + dN * xN ^ 2 * yN ^ 2) := Fin.ext on_num
  rw [toF_add, toF_add, toF_mul, toF_mul, toF_pow, toF_pow, toF_one] at h
  exact h⟩
theorem nine_num : (9 * (1 + (pP - yN))) % pP = (1 + yN) % pP := by decide +kernel
theorem base_u : uF baseP = toF 9 := by
  have h : toF (9 * (1 + (pP - yN))) = toF (1 + yN) := Fin.ext nine_num
  rw [toF_mul, toF_sub (by decide +kernel), toF_add, toF_one] at h
  have h0 : (1 : FP) - toF yN ≠ 0 := by
    have e : (1 : FP) - toF yN = toF (1 + (pP - yN)) := by rw [toF_sub (by decide +kernel), toF_one]
    rw [e]; exact toF_ne (by decide +kernel)
  have e := good.iv h0
  show (1 + toF yN) * iv (1 - toF yN) = toF 9
  rw [← h]
  have : toF 9 * (1 - toF yN) * iv (1 - toF yN) = toF 9 * ((1 - toF yN) * iv (1 - toF yN)) := by grind
  rw [this, e]; grind
theorem toF_ne0 {n : Nat} (h : n % pP ≠ 0) : toF n ≠ 0 := toF_ne fun hd => h (Nat.mod_eq_zero_of_dvd hd)
theorem base_u0 : uF baseP ≠ 0 := by rw [base_u]; exact toF_ne0 (by decide +kernel)

def kN : Nat := 121665
theorem kF1 : (toF kN + 1) * dF = toF kN := by
  have h : toF ((kN + 1) * dN) = toF kN := Fin.ext (by decide +kernel)
  rw [toF_mul, toF_add, toF_one] at h
  exact h
theorem kF2 : toF kN + 1 ≠ 0 := by
  have e : toF kN + 1 = toF (kN + 1) := by rw [toF_add, toF_one]
  rw [e]; exact toF_ne0 (by decide +kernel)

/-- The ladder on numbers. -/
def ladN (u : Nat) (bits : Nat → Bool) (n : Nat) : Sides Nat := ladG addN subN mulN kN u bits ⟨1, 0, u, 1⟩ n
theorem ladN_map {u : Nat} (hu : u < pP) (bits : Nat → Bool) (n : Nat) :
    ((ladN u bits n).x0 < pP ∧ (ladN u bits n).z0 < pP) ∧ (ladN u bits n).map toF = ladG fadd fsub fmul (toF kN) (toF u) bits ⟨1, 0, toF u, 1⟩ n := by
  have h1 : 1 < pP := by decide +kernel
  have := ladG_map addN subN mulN kN u (add' := fadd) (sub' := fsub) (mul' := fmul) toF (· < pP) (fun x y _ _ => ⟨addN_lt x y, toF_addN x y⟩)
    (fun x y _ hy => ⟨subN_lt x y, toF_subN (Nat.le_of_lt hy)⟩) (fun x y _ _ => ⟨mulN_lt x y, toF_mulN x y⟩) (by decide +kernel) hu bits ⟨1, 0, u, 1⟩ ⟨h1, pP_pos, hu, h1⟩ n
  refine ⟨⟨this.1.1, this.1.2.1⟩, ?_⟩
  rw [ladN, this.2]
  simp only [Sides.map, toF_one, toF_zero]
/-- What comes out: x / z, by the power p - 2. -/
def outN (u : Nat) (bits : Nat → Bool) (n : Nat) : Nat := (ladN u bits n).x0 * ((ladN u bits n).z0 ^ (pP - 2) % pP) % pP
theorem outN_lt (u : Nat) (bits : Nat → Bool) (n : Nat) : outN u bits n < pP := Nat.mod_lt _ pP_pos
theorem outN_F {u : Nat} (hu : u < pP) (bits : Nat → Bool) (n : Nat) : toF (outN u bits n) = (ladG fadd fsub fmul (toF kN) (toF u) bits ⟨1, 0, toF u, 1⟩ n).x0 * iv (ladG fadd fsub fmul (toF kN) (toF u) bits ⟨1, 0, toF u, 1⟩ n).z0 := by
  have h := (ladN_map hu bits n).2
  rw [← h, outN, toF_mod, toF_mul, toF_mod, toF_pow, ← iv_pow]
  rfl
/-- Over a multiple of the base point. -/
theorem outN_mul {u : Nat} (hu : u < pP) {P : Pt dF} (hP : toF u = uF P) (h0 : u ≠ 0) (bits : Nat → Bool) (n : Nat) : toF (outN u bits n) = uF (P.mul good (bitsN bits n)) := by
  have hne : uF P ≠ 0 := by
    rw [← hP]; exact toF_ne0 (by rw [Nat.mod_eq_of_lt hu]; exact h0)
  rw [outN_F hu, hP]
  exact lad_out good kF1 kF2 hne bits n

/-! ### The order -/
def bitsOf (m w : Nat) (i : Nat) : Bool := m.testBit (w - 1 - i)
theorem bitsN_of (m w : Nat) (hm : m < 2 ^ w) : bitsN (bitsOf m w) w = m := by
  have h : ∀ n, n ≤ w → bitsN (bitsOf m w) n = m / 2 ^ (w - n) := by
    intro n
    induction n with
    | zero => intro _; rw [bitsN, Nat.sub_zero, Nat.div_eq_of_lt hm]
    | succ n ih =>
      intro hn
      rw [bitsN, ih (by omega), bitsOf]
      have e : m / 2 ^ (w - (n + 1)) = 2 * (m / 2 ^ (w - n)) + (m / 2 ^ (w - (n + 1))) % 2 := by
        have : m / 2 ^ (w - n) = m / 2 ^ (w - (n + 1)) / 2 := by
          rw [Nat.div_div_eq_div_mul, ← Nat.pow_succ]; congr 2; omega
        omega
      rw [e, show w - 1 - n = w - (n + 1) by omega, Nat.testBit_eq_decide_div_mod_eq]
      have : (m / 2 ^ (w - (n + 1))) % 2 < 2 := Nat.mod_lt _ (by decide)
      by_cases hb : m / 2 ^ (w - (n + 1)) % 2 = 1
      · simp [hb]
      · have : m / 2 ^ (w - (n + 1)) % 2 = 0 := by omega
        simp [this]
  have := h w (Nat.le_refl w)
  simpa using this
theorem lad_l : (ladN 9 (bitsOf lL 253) 253).z0 = 0 := by decide +kernel
end Go.Proofs.Ytmbbdblmengdhaa
