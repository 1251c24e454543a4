/- Plain: multiples of a point; the ladder's steps on the curve. -/
import Derived.Test.YtmbbdblmengdhaaN2
set_option linter.unusedSimpArgs false
set_option linter.unusedVariables false
namespace Go.Proofs.Ytmbbdblmengdhaa

section
variable {p : Nat} [NeZero p] {d : Fin p} (h : Good d)
include h

noncomputable def Pt.mul (P : Pt d) : Nat → Pt d
  | 0 => Pt.zero d
  | n + 1 => (P.mul n).add h P
theorem Pt.mul_add (P : Pt d) (m n : Nat) : P.mul h (m + n) = (P.mul h m).add h (P.mul h n) := by
  induction n with
  | zero => rw [Nat.add_zero, Pt.mul, Pt.add_zero]
  | succ n ih => rw [← Nat.add_assoc, Pt.mul, ih, Pt.mul, Pt.add_assoc]
theorem Pt.zero_mul (n : Nat) : (Pt.zero d).mul h n = Pt.zero d := by
  induction n with
  | zero => rfl
  | succ n ih => rw [Pt.mul, ih, Pt.add_zero]
theorem Pt.mul_mul (P : Pt d) (m n : Nat) : (P.mul h m).mul h n = P.mul h (m * n) := by
  induction n with
  | zero => rfl
  | succ n ih => rw [Pt.mul, ih, Nat.mul_succ, Pt.mul_add]
theorem Pt.mul_one (P : Pt d) : P.mul h 1 = P := by rw [Pt.mul, Pt.mul, Pt.zero_add]
/-- Where two multiples are nought, that by the greatest common divisor is. -/
theorem Pt.mul_gcd (P : Pt d) : ∀ m n, P.mul h m = Pt.zero d → P.mul h n = Pt.zero d → P.mul h (Nat.gcd m n) = Pt.zero d := by
  intro m n
  induction m, n using Nat.gcd.induction with
  | H0 n => intro _ hn; simpa using hn
  | H1 m n hm ih =>
    intro hm1 hn
    rw [Nat.gcd_rec]
    refine ih ?_ hm1
    rw [← Nat.div_add_mod n m, Pt.mul_add, ← Pt.mul_mul, hm1, Pt.zero_mul, Pt.zero_add] at hn
    exact hn

/-- y is 1 or -1: twice the point is nought. -/
theorem Pt.x_zero (P : Pt d) (hy : P.y * P.y = 1) : P.x = 0 := by
  have h1 := P.on
  have h3 : (1 - d) * P.x ^ 2 = 0 := by grind
  have h4 : 1 - d ≠ 0 := fun e => h.ns 1 (by grind)
  exact h.sq0 (h.mul0 h4 h3)
theorem Pt.twice (P : Pt d) (hy : P.y * P.y = 1) : P.add h P = Pt.zero d := by
  have hx := P.x_zero h hy
  have ⟨a1, a2⟩ := P.add_eq h P
  rw [hx] at a1 a2
  apply Pt.ext'
  · show _ = (0 : Fin p); grind
  · show _ = (1 : Fin p); grind
theorem Pt.zero_of_y (P : Pt d) (hy : P.y = 1) : P = Pt.zero d := by
  apply Pt.ext'
  · exact P.x_zero h (by rw [hy]; grind)
  · exact hy

/-- A pair X : Z stands for a point: (1 + y) : (1 - y). -/
def Rep (X Z : Fin p) (P : Pt d) : Prop := ∃ l : Fin p, l ≠ 0 ∧ X = l * (1 + P.y) ∧ Z = l * (1 - P.y)

theorem rep_zero : Rep (1 : Fin p) 0 (Pt.zero d) := by
  have e := h.iv h.two
  refine ⟨iv 2, h.iv_ne h.two, ?_, ?_⟩
  · show 1 = iv 2 * (1 + (1 : Fin p)); grind
  · show 0 = iv 2 * (1 - (1 : Fin p)); grind
theorem rep_base {P : Pt d} {u : Fin p} (hy : 1 - P.y ≠ 0) (hu : u * (1 - P.y) = 1 + P.y) : Rep u 1 P := by
  have e := h.iv hy
  refine ⟨iv (1 - P.y), h.iv_ne hy, ?_, ?_⟩
  · rw [← hu]; grind
  · grind

theorem one_sub {P : Pt d} : 1 - d * P.y ^ 2 ≠ 0 := by
  intro e
  by_cases hy : P.y = 0
  · rw [hy] at e; exact h.one (by grind)
  · have := h.iv hy
    exact h.ns (iv P.y) (by grind)

omit h in
theorem dbl_alg {x y d k l : Fin p} (on : x ^ 2 + y ^ 2 = 1 + d * x ^ 2 * y ^ 2) (hk : (k + 1) * d = k) {y2 : Fin p} (h2 : y2 * (1 - d * x * x * y * y) = y * y - x * x) :
    2 * ((l * (1 + y) + l * (1 - y)) ^ 2 * (l * (1 + y) - l * (1 - y)) ^ 2) = (16 * l ^ 4 * (k + 1) * (1 - d * y ^ 2) * (1 - d * x * x * y * y)) * (1 + y2) ∧
    2 * (((l * (1 + y) + l * (1 - y)) ^ 2 - (l * (1 + y) - l * (1 - y)) ^ 2) * ((l * (1 + y) + l * (1 - y)) ^ 2 + k * ((l * (1 + y) + l * (1 - y)) ^ 2 - (l * (1 + y) - l * (1 - y)) ^ 2))) = (16 * l ^ 4 * (k + 1) * (1 - d * y ^ 2) * (1 - d * x * x * y * y)) * (1 - y2) := by
  have e1 : l * (1 + y) + l * (1 - y) = 2 * l := by grind
  have e2 : l * (1 + y) - l * (1 - y) = 2 * l * y := by grind
  have e3 : (1 - d * x * x * y * y) * (1 + y2) = 2 * (1 - x ^ 2) := by grind
  have e4 : (1 - d * x * x * y * y) * (1 - y2) = 2 * (1 - y ^ 2) := by grind
  have e5 : (k + 1) * (1 - d * y ^ 2) * (1 - x ^ 2) = y ^ 2 := by grind
  have e6 : (k + 1) * (1 - d * y ^ 2) = 1 + k * (1 - y ^ 2) := by grind
  rw [e1, e2]
  clear on h2 hk
  constructor
  · have : 16 * l ^ 4 * (k + 1) * (1 - d * y ^ 2) * (1 - d * x * x * y * y) * (1 + y2) = 16 * l ^ 4 * ((k + 1) * (1 - d * y ^ 2)) * ((1 - d * x * x * y * y) * (1 + y2)) := by grind
    rw [this, e3]
    have : 16 * l ^ 4 * ((k + 1) * (1 - d * y ^ 2)) * (2 * (1 - x ^ 2)) = 32 * l ^ 4 * ((k + 1) * (1 - d * y ^ 2) * (1 - x ^ 2)) := by grind
    rw [this, e5]
    grind
  · have : 16 * l ^ 4 * (k + 1) * (1 - d * y ^ 2) * (1 - d * x * x * y * y) * (1 - y2) = 16 * l ^ 4 * ((k + 1) * (1 - d * y ^ 2)) * ((1 - d * x * x * y * y) * (1 - y2)) := by grind
    rw [this, e4, e6]
    grind

theorem rep_dbl {k X Z : Fin p} (hk : (k + 1) * d = k) (hk0 : k + 1 ≠ 0) {P : Pt d} (r : Rep X Z P) :
    Rep ((X + Z) ^ 2 * (X - Z) ^ 2) (((X + Z) ^ 2 - (X - Z) ^ 2) * ((X + Z) ^ 2 + k * ((X + Z) ^ 2 - (X - Z) ^ 2))) (P.add h P) := by
  obtain ⟨l, l0, rfl, rfl⟩ := r
  have two := h.two
  have a2 := (P.add_eq h P).2
  have dn := h.denm P.on P.on
  have d1 : 1 - d * P.y ^ 2 ≠ 0 := one_sub h
  have ⟨g1, g2⟩ := dbl_alg (l := l) P.on hk a2
  refine ⟨8 * l ^ 4 * (k + 1) * (1 - d * P.y ^ 2) * (1 - d * P.x * P.x * P.y * P.y), ?_, ?_, ?_⟩
  · have e8 : (8 : Fin p) ≠ 0 := by
      have e : (8 : Fin p) = 2 * 2 * 2 := by clear a2 dn d1 g1 g2; grind
      rw [e]; exact h.ne_mul (h.ne_mul two two) two
    have e4 : l ^ 4 ≠ 0 := by
      have e : l ^ 4 = l * l * (l * l) := by clear a2 dn d1 g1 g2; grind
      rw [e]; exact h.ne_mul (h.ne_mul l0 l0) (h.ne_mul l0 l0)
    exact h.ne_mul (h.ne_mul (h.ne_mul (h.ne_mul e8 e4) hk0) d1) dn
  · generalize 1 - d * P.x * P.x * P.y * P.y = A at *
    generalize 1 - d * P.y ^ 2 = B at *
    generalize (P.add h P).y = y2 at *
    generalize (l * (1 + P.y) + l * (1 - P.y)) ^ 2 * (l * (1 + P.y) - l * (1 - P.y)) ^ 2 = L at *
    clear g2 a2
    refine h.cancel two ?_
    rw [g1]; grind
  · generalize 1 - d * P.x * P.x * P.y * P.y = A at *
    generalize 1 - d * P.y ^ 2 = B at *
    generalize (P.add h P).y = y2 at *
    generalize ((l * (1 + P.y) + l * (1 - P.y)) ^ 2 - (l * (1 + P.y) - l * (1 - P.y)) ^ 2) * ((l * (1 + P.y) + l * (1 - P.y)) ^ 2 + k * ((l * (1 + P.y) + l * (1 - P.y)) ^ 2 - (l * (1 + P.y) - l * (1 - P.y)) ^ 2)) = L at *
    clear g1 a2
    refine h.cancel two ?_
    rw [g2]; grind

theorem dadd_alg {x2 y2 x3 y3 y5 y1 : Fin p} (e2 : x2 ^ 2 + y2 ^ 2 = 1 + d * x2 ^ 2 * y2 ^ 2) (e3 : x3 ^ 2 + y3 ^ 2 = 1 + d * x3 ^ 2 * y3 ^ 2)
    (hp : y5 * (1 - d * x2 * x3 * y2 * y3) = y2 * y3 - x2 * x3) (hm : y1 * (1 + d * x2 * x3 * y2 * y3) = y2 * y3 + x2 * x3) (n1 : 1 - d * x2 * x3 * y2 * y3 ≠ 0) (n2 : 1 + d * x2 * x3 * y2 * y3 ≠ 0) :
    (1 + y5) * (1 + y1) * (y3 - y2) ^ 2 = (1 - y5) * (1 - y1) * (y2 + y3) ^ 2 := by
  have k : (1 - d * x2 * x3 * y2 * y3 + (y2 * y3 - x2 * x3)) * (1 + d * x2 * x3 * y2 * y3 + (y2 * y3 + x2 * x3)) * (y3 - y2) ^ 2 = (1 - d * x2 * x3 * y2 * y3 - (y2 * y3 - x2 * x3)) * (1 + d * x2 * x3 * y2 * y3 - (y2 * y3 + x2 * x3)) * (y2 + y3) ^ 2 := by clear hp hm n1 n2; grind
  rw [← hp, ← hm] at k
  have hpq := h.ne_mul n1 n2
  generalize 1 - d * x2 * x3 * y2 * y3 = r at *
  generalize 1 + d * x2 * x3 * y2 * y3 = s at *
  clear hp hm e2 e3 n1 n2
  have : (r * s) * ((1 + y5) * (1 + y1) * (y3 - y2) ^ 2) = (r * s) * ((1 - y5) * (1 - y1) * (y2 + y3) ^ 2) := by grind
  exact h.cancel hpq this

theorem rep_dadd {X2 Z2 X3 Z3 u : Fin p} {P Q : Pt d} (r2 : Rep X2 Z2 P) (r3 : Rep X3 Z3 Q) {y1 : Fin p} (hy : y1 = (Q.add h P.neg).y) (hm : 1 - y1 ≠ 0) (hp : 1 + y1 ≠ 0) (hu : u * (1 - y1) = 1 + y1) :
    Rep (((X3 - Z3) * (X2 + Z2) + (X3 + Z3) * (X2 - Z2)) ^ 2) (u * ((X3 - Z3) * (X2 + Z2) - (X3 + Z3) * (X2 - Z2)) ^ 2) (P.add h Q) := by
  obtain ⟨l, l0, rfl, rfl⟩ := r2
  obtain ⟨m, m0, rfl, rfl⟩ := r3
  have two := h.two
  have a2 := (P.add_eq h Q).2
  have b2 := (Q.add_eq h P.neg).2
  have n1 := h.denm P.on Q.on
  have n2 := h.denp P.on Q.on
  rw [← hy] at b2
  simp only [Pt.neg] at b2
  have b3 : y1 * (1 + d * P.x * Q.x * P.y * Q.y) = P.y * Q.y + P.x * Q.x := by
    have e : 1 - d * Q.x * -P.x * Q.y * P.y = 1 + d * P.x * Q.x * P.y * Q.y := by grind
    rw [e] at b2; rw [b2]; grind
  have al := dadd_alg h P.on Q.on a2 b3 n1 n2
  have P1 := P.on
  have Q1 := Q.on
  clear b2 hy
  generalize hy5 : (P.add h Q).y = y5 at *
  generalize P.y = y2 at *
  generalize Q.y = y3 at *
  generalize P.x = x2 at *
  generalize Q.x = x3 at *
  have e1 : (m * (1 + y3) - m * (1 - y3)) * (l * (1 + y2) + l * (1 - y2)) + (m * (1 + y3) + m * (1 - y3)) * (l * (1 + y2) - l * (1 - y2)) = 4 * (l * m) * (y2 + y3) := by clear al P1 Q1 a2 b3; grind
  have e2 : (m * (1 + y3) - m * (1 - y3)) * (l * (1 + y2) + l * (1 - y2)) - (m * (1 + y3) + m * (1 - y3)) * (l * (1 + y2) - l * (1 - y2)) = 4 * (l * m) * (y3 - y2) := by clear al P1 Q1 a2 b3; grind
  rw [e1, e2]
  have c0 : 4 * (l * m) ≠ 0 := by
    have e : (4 : Fin p) * (l * m) = 2 * 2 * (l * m) := by clear al P1 Q1 a2 b3; grind
    rw [e]; exact h.ne_mul (h.ne_mul two two) (h.ne_mul l0 m0)
  generalize 4 * (l * m) = c at *
  clear e1 e2 l0 m0
  -- X * (1 - y5) = Z * (1 + y5)
  have kx : (c * (y2 + y3)) ^ 2 * (1 - y5) = u * (c * (y3 - y2)) ^ 2 * (1 + y5) := by
    have t : (1 - y1) * ((c * (y2 + y3)) ^ 2 * (1 - y5)) = (1 - y1) * (u * (c * (y3 - y2)) ^ 2 * (1 + y5)) := by
      have t1 : (1 - y1) * ((c * (y2 + y3)) ^ 2 * (1 - y5)) = c ^ 2 * ((1 - y5) * (1 - y1) * (y2 + y3) ^ 2) := by clear al P1 Q1 a2 b3 hu; grind
      have t2 : (1 - y1) * (u * (c * (y3 - y2)) ^ 2 * (1 + y5)) = c ^ 2 * ((u * (1 - y1)) * (y3 - y2) ^ 2 * (1 + y5)) := by clear al P1 Q1 a2 b3 hu; grind
      rw [t1, t2, ← al, hu]
      clear al P1 Q1 a2 b3 hu; grind
    exact h.cancel hm t
  have u0 : u ≠ 0 := fun e => hp (by rw [← hu, e]; clear al P1 Q1 a2 b3 kx; grind)
  -- not both nought
  have nz : (c * (y2 + y3)) ^ 2 + u * (c * (y3 - y2)) ^ 2 ≠ 0 := by
    intro e
    generalize hX : (c * (y2 + y3)) ^ 2 = X at *
    generalize hZ : u * (c * (y3 - y2)) ^ 2 = Z at *
    have kxx : X * 2 = 0 := by
      have : Z = - X := by clear al P1 Q1 a2 b3 hX hZ kx; grind
      rw [this] at kx
      clear al P1 Q1 a2 b3 hX hZ; grind
    have hX0 : X = 0 := h.mul0 two (by clear al P1 Q1 a2 b3 hX hZ kx; grind)
    have hZ0 : Z = 0 := by rw [hX0] at e; clear al P1 Q1 a2 b3 hX hZ kx; grind
    subst hX0
    subst hZ0
    have s1 : y2 + y3 = 0 := h.mul0 c0 (h.sq0 hX)
    have s2 : y3 - y2 = 0 := h.mul0 c0 (h.sq0 (h.mul0 u0 hZ))
    have s3 : y2 = 0 := h.mul0 two (by clear al P1 Q1 a2 b3 kx hX hZ; grind)
    have s4 : y3 = 0 := by rw [s3] at s1; clear al P1 Q1 a2 b3 kx hX hZ; grind
    subst s3
    subst s4
    have q1 : x2 ^ 2 = 1 := by clear al a2 b3 kx hX hZ; grind
    have q2 : x3 ^ 2 = 1 := by clear al a2 b3 kx hX hZ; grind
    have q3 : y1 = x2 * x3 := by clear al a2 kx hX hZ; grind
    have q4 : (1 - y1) * (1 + y1) = 0 := by clear al a2 kx hX hZ b3; grind
    exact h.ne_mul hm hp q4
  refine ⟨((c * (y2 + y3)) ^ 2 + u * (c * (y3 - y2)) ^ 2) * (iv (2 : Fin p)), ?_, ?_, ?_⟩
  · exact h.ne_mul nz (h.iv_ne two)
  · rw [hy5]
    generalize (c * (y2 + y3)) ^ 2 = X at *
    generalize u * (c * (y3 - y2)) ^ 2 = Z at *
    have i2 := h.iv two
    clear al P1 Q1 a2 b3 hu hp hm
    grind
  · rw [hy5]
    generalize (c * (y2 + y3)) ^ 2 = X at *
    generalize u * (c * (y3 - y2)) ^ 2 = Z at *
    have i2 := h.iv two
    clear al P1 Q1 a2 b3 hu hp hm
    grind
end
end Go.Proofs.Ytmbbdblmengdhaa
