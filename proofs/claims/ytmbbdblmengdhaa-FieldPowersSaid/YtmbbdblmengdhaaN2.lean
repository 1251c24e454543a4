/- Plain: a complete Edwards curve over any field in which d is no square: a group; the ladder's steps on it. -/
set_option linter.unusedSimpArgs false
set_option linter.unusedVariables false
namespace Go.Proofs.Ytmbbdblmengdhaa

section
variable {p : Nat} [NeZero p]

/-- Numbers modulo p where each but 0 has an inverse; d is no square, and 2 is not 0. -/
structure Good (d : Fin p) : Prop where
  one : (1 : Fin p) ≠ 0
  inv : ∀ a : Fin p, a ≠ 0 → ∃ b, a * b = 1
  two : (2 : Fin p) ≠ 0
  ns : ∀ z : Fin p, z ^ 2 ≠ d

open Classical in
noncomputable def iv (a : Fin p) : Fin p := if h : a ≠ 0 ∧ ∃ b, a * b = 1 then Classical.choose h.2 else 0
theorem iv_zero : iv (0 : Fin p) = 0 := dif_neg fun h => h.1 rfl
theorem Good.iv {d : Fin p} (h : Good d) {a : Fin p} (ha : a ≠ 0) : a * iv a = 1 := by
  have hx : a ≠ 0 ∧ ∃ b, a * b = 1 := ⟨ha, h.inv a ha⟩
  have e : Proofs.Ytmbbdblmengdhaa.iv a = Classical.choose hx.2 := dif_pos hx
  rw [e]; exact Classical.choose_spec hx.2
theorem Good.cancel {d : Fin p} (h : Good d) {a b c : Fin p} (hc : c ≠ 0) (e : c * a = c * b) : a = b := by
  obtain ⟨i, hi⟩ := h.inv c hc
  have : i * (c * a) = i * (c * b) := by rw [e]
  grind
theorem Good.ne_mul {d : Fin p} (h : Good d) {a b : Fin p} (ha : a ≠ 0) (hb : b ≠ 0) : a * b ≠ 0 := fun e =>
  hb (h.cancel ha (by rw [e]; grind))
theorem Good.mul0 {d : Fin p} (h : Good d) {a b : Fin p} (ha : a ≠ 0) (e : a * b = 0) : b = 0 := h.cancel ha (by rw [e]; grind)
theorem Good.sq0 {d : Fin p} (h : Good d) {a : Fin p} (e : a ^ 2 = 0) : a = 0 := by
  by_cases ha : a = 0
  · exact ha
  · exact h.mul0 ha (by grind)
theorem Good.iv_ne {d : Fin p} (h : Good d) {a : Fin p} (ha : a ≠ 0) : Proofs.Ytmbbdblmengdhaa.iv a ≠ 0 := fun e => by
  have := h.iv ha
  rw [e] at this
  exact h.one (by grind)

@[ext] structure Pt (d : Fin p) where
  x : Fin p
  y : Fin p
  on : x ^ 2 + y ^ 2 = 1 + d * x ^ 2 * y ^ 2

theorem den1 {d x1 y1 x2 y2 s : Fin p} (e1 : x1 ^ 2 + y1 ^ 2 = 1 + d * x1 ^ 2 * y1 ^ 2) (e2 : x2 ^ 2 + y2 ^ 2 = 1 + d * x2 ^ 2 * y2 ^ 2) (hs : s * s = 1) (hD : d * x1 * x2 * y1 * y2 = s) :
    d * x1 ^ 2 * y1 ^ 2 * (x2 ^ 2 + y2 ^ 2) = x1 ^ 2 + y1 ^ 2 := by
  have : d * x1 ^ 2 * y1 ^ 2 * (1 + d * x2 ^ 2 * y2 ^ 2) = d * x1 ^ 2 * y1 ^ 2 + (d * x1 * x2 * y1 * y2) * (d * x1 * x2 * y1 * y2) := by grind
  rw [e2, e1, this, hD, hs]; grind
theorem den2 {d x1 y1 x2 y2 s : Fin p} (hs : s * s = 1) (hD : d * x1 * x2 * y1 * y2 = s) (k : d * x1 ^ 2 * y1 ^ 2 * (x2 ^ 2 + y2 ^ 2) = x1 ^ 2 + y1 ^ 2) :
    (x1 + s * y1) ^ 2 = d * (x1 * y1 * (x2 + y2)) ^ 2 ∧ (x1 - s * y1) ^ 2 = d * (x1 * y1 * (x2 - y2)) ^ 2 := by
  have a1 : (x1 + s * y1) ^ 2 = x1 ^ 2 + (s * s) * y1 ^ 2 + 2 * s * (x1 * y1) := by grind
  have a2 : (x1 - s * y1) ^ 2 = x1 ^ 2 + (s * s) * y1 ^ 2 - 2 * s * (x1 * y1) := by grind
  have a3 : d * (x1 * y1 * (x2 + y2)) ^ 2 = d * x1 ^ 2 * y1 ^ 2 * (x2 ^ 2 + y2 ^ 2) + 2 * (d * x1 * x2 * y1 * y2) * (x1 * y1) := by grind
  have a4 : d * (x1 * y1 * (x2 - y2)) ^ 2 = d * x1 ^ 2 * y1 ^ 2 * (x2 ^ 2 + y2 ^ 2) - 2 * (d * x1 * x2 * y1 * y2) * (x1 * y1) := by grind
  rw [a1, a2, a3, a4, hs, hD, k]
  constructor <;> grind
theorem Good.den {d : Fin p} (h : Good d) {x1 y1 x2 y2 s : Fin p} (e1 : x1 ^ 2 + y1 ^ 2 = 1 + d * x1 ^ 2 * y1 ^ 2) (e2 : x2 ^ 2 + y2 ^ 2 = 1 + d * x2 ^ 2 * y2 ^ 2) (hs : s * s = 1) (hD : d * x1 * x2 * y1 * y2 = s) : False := by
  have h1 := h.one
  have s0 : s ≠ 0 := fun e => h1 (by rw [← hs, e]; grind)
  have hx1 : x1 ≠ 0 := fun e => s0 (by rw [← hD, e]; grind)
  have hy1 : y1 ≠ 0 := fun e => s0 (by rw [← hD, e]; grind)
  have hx2 : x2 ≠ 0 := fun e => s0 (by rw [← hD, e]; grind)
  have hy2 : y2 ≠ 0 := fun e => s0 (by rw [← hD, e]; grind)
  have k1 := den1 e1 e2 hs hD
  have ⟨k2, k3⟩ := den2 hs hD k1
  clear k1 e1 e2 hs hD
  have fin : ∀ u v : Fin p, v ≠ 0 → u ^ 2 = d * v ^ 2 → False := by
    intro u v hv e
    obtain ⟨i, hi⟩ := h.inv v hv
    refine h.ns (u * i) ?_
    have : (u * i) ^ 2 = u ^ 2 * i ^ 2 := by grind
    rw [this, e]
    have : d * v ^ 2 * i ^ 2 = d * (v * i) ^ 2 := by grind
    rw [this, hi]; grind
  by_cases hp : x2 + y2 = 0
  · have hm : x2 - y2 ≠ 0 := fun hm => hx2 (h.mul0 h.two (by grind))
    exact fin _ _ (h.ne_mul (h.ne_mul hx1 hy1) hm) k3
  · exact fin _ _ (h.ne_mul (h.ne_mul hx1 hy1) hp) k2
theorem Good.denp {d : Fin p} (h : Good d) {x1 y1 x2 y2 : Fin p} (e1 : x1 ^ 2 + y1 ^ 2 = 1 + d * x1 ^ 2 * y1 ^ 2) (e2 : x2 ^ 2 + y2 ^ 2 = 1 + d * x2 ^ 2 * y2 ^ 2) : 1 + d * x1 * x2 * y1 * y2 ≠ 0 :=
  fun e => h.den e1 e2 (s := -1) (by grind) (by grind)
theorem Good.denm {d : Fin p} (h : Good d) {x1 y1 x2 y2 : Fin p} (e1 : x1 ^ 2 + y1 ^ 2 = 1 + d * x1 ^ 2 * y1 ^ 2) (e2 : x2 ^ 2 + y2 ^ 2 = 1 + d * x2 ^ 2 * y2 ^ 2) : 1 - d * x1 * x2 * y1 * y2 ≠ 0 :=
  fun e => h.den e1 e2 (s := 1) (by grind) (by grind)

theorem closed {d x1 y1 x2 y2 u v : Fin p} (e1 : x1 ^ 2 + y1 ^ 2 = 1 + d * x1 ^ 2 * y1 ^ 2) (e2 : x2 ^ 2 + y2 ^ 2 = 1 + d * x2 ^ 2 * y2 ^ 2)
    (hu : (1 + d * x1 * x2 * y1 * y2) * u = 1) (hv : (1 - d * x1 * x2 * y1 * y2) * v = 1) :
    ((x1 * y2 + y1 * x2) * u) ^ 2 + ((y1 * y2 - x1 * x2) * v) ^ 2 = 1 + d * ((x1 * y2 + y1 * x2) * u) ^ 2 * ((y1 * y2 - x1 * x2) * v) ^ 2 := by
  have k : (x1 * y2 + y1 * x2) ^ 2 * (1 - d * x1 * x2 * y1 * y2) ^ 2 + (y1 * y2 - x1 * x2) ^ 2 * (1 + d * x1 * x2 * y1 * y2) ^ 2 = (1 + d * x1 * x2 * y1 * y2) ^ 2 * (1 - d * x1 * x2 * y1 * y2) ^ 2 + d * (x1 * y2 + y1 * x2) ^ 2 * (y1 * y2 - x1 * x2) ^ 2 := by grind
  generalize x1 * y2 + y1 * x2 = n at *
  generalize y1 * y2 - x1 * x2 = m at *
  generalize 1 + d * x1 * x2 * y1 * y2 = p at *
  generalize 1 - d * x1 * x2 * y1 * y2 = q at *
  have : (n ^ 2 * q ^ 2 + m ^ 2 * p ^ 2) * (u ^ 2 * v ^ 2) = (p ^ 2 * q ^ 2 + d * n ^ 2 * m ^ 2) * (u ^ 2 * v ^ 2) := by rw [k]
  clear k e1 e2
  grind

theorem assoc_x {d x1 y1 x2 y2 x3 y3 : Fin p} (e1 : x1 ^ 2 + y1 ^ 2 = 1 + d * x1 ^ 2 * y1 ^ 2) (e2 : x2 ^ 2 + y2 ^ 2 = 1 + d * x2 ^ 2 * y2 ^ 2) (e3 : x3 ^ 2 + y3 ^ 2 = 1 + d * x3 ^ 2 * y3 ^ 2) :
    ((x1 * y2 + y1 * x2) * y3 * (1 - d * x1 * x2 * y1 * y2) + (y1 * y2 - x1 * x2) * x3 * (1 + d * x1 * x2 * y1 * y2)) * ((1 + d * x2 * x3 * y2 * y3) * (1 - d * x2 * x3 * y2 * y3) + d * (x2 * y3 + y2 * x3) * (y2 * y3 - x2 * x3) * x1 * y1) =
    ((x2 * y3 + y2 * x3) * y1 * (1 - d * x2 * x3 * y2 * y3) + (y2 * y3 - x2 * x3) * x1 * (1 + d * x2 * x3 * y2 * y3)) * ((1 + d * x1 * x2 * y1 * y2) * (1 - d * x1 * x2 * y1 * y2) + d * (x1 * y2 + y1 * x2) * (y1 * y2 - x1 * x2) * x3 * y3) := by grind
theorem assoc_y {d x1 y1 x2 y2 x3 y3 : Fin p} (e1 : x1 ^ 2 + y1 ^ 2 = 1 + d * x1 ^ 2 * y1 ^ 2) (e2 : x2 ^ 2 + y2 ^ 2 = 1 + d * x2 ^ 2 * y2 ^ 2) (e3 : x3 ^ 2 + y3 ^ 2 = 1 + d * x3 ^ 2 * y3 ^ 2) :
    ((y1 * y2 - x1 * x2) * y3 * (1 + d * x1 * x2 * y1 * y2) - (x1 * y2 + y1 * x2) * x3 * (1 - d * x1 * x2 * y1 * y2)) * ((1 + d * x2 * x3 * y2 * y3) * (1 - d * x2 * x3 * y2 * y3) - d * (x2 * y3 + y2 * x3) * (y2 * y3 - x2 * x3) * x1 * y1) =
    ((y2 * y3 - x2 * x3) * y1 * (1 + d * x2 * x3 * y2 * y3) - (x2 * y3 + y2 * x3) * x1 * (1 - d * x2 * x3 * y2 * y3)) * ((1 + d * x1 * x2 * y1 * y2) * (1 - d * x1 * x2 * y1 * y2) - d * (x1 * y2 + y1 * x2) * (y1 * y2 - x1 * x2) * x3 * y3) := by grind

theorem Pt.ext' {d : Fin p} {P Q : Pt d} (hx : P.x = Q.x) (hy : P.y = Q.y) : P = Q := by
  cases P; cases Q; simp only at hx hy; subst hx; subst hy; rfl

variable {d : Fin p} (h : Good d)

noncomputable def Pt.add (P Q : Pt d) : Pt d :=
  ⟨(P.x * Q.y + P.y * Q.x) * iv (1 + d * P.x * Q.x * P.y * Q.y), (P.y * Q.y - P.x * Q.x) * iv (1 - d * P.x * Q.x * P.y * Q.y),
    closed P.on Q.on (h.iv (h.denp P.on Q.on)) (h.iv (h.denm P.on Q.on))⟩
def Pt.zero (d : Fin p) : Pt d := ⟨0, 1, by grind⟩
def Pt.neg (P : Pt d) : Pt d := ⟨-P.x, P.y, by have := P.on; grind⟩

theorem Pt.add_eq (P Q : Pt d) : (P.add h Q).x * (1 + d * P.x * Q.x * P.y * Q.y) = P.x * Q.y + P.y * Q.x ∧ (P.add h Q).y * (1 - d * P.x * Q.x * P.y * Q.y) = P.y * Q.y - P.x * Q.x := by
  have h1 := h.iv (h.denp P.on Q.on)
  have h2 := h.iv (h.denm P.on Q.on)
  simp only [Pt.add]
  generalize iv (1 + d * P.x * Q.x * P.y * Q.y) = u at *
  generalize iv (1 - d * P.x * Q.x * P.y * Q.y) = v at *
  generalize 1 + d * P.x * Q.x * P.y * Q.y = a at *
  generalize 1 - d * P.x * Q.x * P.y * Q.y = b at *
  constructor <;> grind
theorem Pt.add_comm (P Q : Pt d) : P.add h Q = Q.add h P := by
  apply Pt.ext'
  · simp only [Pt.add]
    have e1 : Q.x * P.y + Q.y * P.x = P.x * Q.y + P.y * Q.x := by grind
    have e2 : 1 + d * Q.x * P.x * Q.y * P.y = 1 + d * P.x * Q.x * P.y * Q.y := by grind
    rw [e1, e2]
  · simp only [Pt.add]
    have e1 : Q.y * P.y - Q.x * P.x = P.y * Q.y - P.x * Q.x := by grind
    have e2 : 1 - d * Q.x * P.x * Q.y * P.y = 1 - d * P.x * Q.x * P.y * Q.y := by grind
    rw [e1, e2]
theorem Pt.add_zero (P : Pt d) : P.add h (Pt.zero d) = P := by
  have ⟨h1, h2⟩ := P.add_eq h (Pt.zero d)
  simp only [Pt.zero] at h1 h2
  apply Pt.ext' <;> grind [Pt.zero]
theorem Pt.zero_add (P : Pt d) : (Pt.zero d).add h P = P := by rw [Pt.add_comm, Pt.add_zero]
theorem Pt.add_neg (P : Pt d) : P.add h P.neg = Pt.zero d := by
  have ⟨h1, h2⟩ := P.add_eq h P.neg
  have h3 := h.denp P.on P.neg.on
  have h4 := h.denm P.on P.neg.on
  simp only [Pt.neg] at h1 h2 h3 h4
  have := P.on
  apply Pt.ext'
  · have e : (P.add h P.neg).x * (1 + d * P.x * -P.x * P.y * P.y) = 0 := by rw [show (P.add h P.neg) = (P.add h ⟨-P.x, P.y, P.neg.on⟩) from rfl, h1]; grind
    show (P.add h P.neg).x = 0
    exact h.mul0 h3 (by rw [← e]; grind)
  · have e : (P.add h P.neg).y * (1 - d * P.x * -P.x * P.y * P.y) = (1 - d * P.x * -P.x * P.y * P.y) := by rw [show (P.add h P.neg) = (P.add h ⟨-P.x, P.y, P.neg.on⟩) from rfl, h2]; grind
    show (P.add h P.neg).y = 1
    exact h.cancel h4 (by rw [show ∀ z w : Fin p, w * z = z * w from fun z w => by grind, e]; grind)

theorem cross {d : Fin p} (h : Good d) {a b n m r s : Fin p} (hp : r ≠ 0) (hq : s ≠ 0) (h1 : a * r = n) (h2 : b * s = m) (h3 : n * s = m * r) : a = b := by
  refine h.cancel (h.ne_mul hp hq) ?_
  have e1 : r * s * a = (a * r) * s := by grind
  have e2 : r * s * b = (b * s) * r := by grind
  rw [e1, e2, h1, h2, h3]

theorem Pt.add_assoc (P Q R : Pt d) : (P.add h Q).add h R = P.add h (Q.add h R) := by
  have ⟨a1, a2⟩ := P.add_eq h Q
  have ⟨b1, b2⟩ := Q.add_eq h R
  have ⟨c1, c2⟩ := (P.add h Q).add_eq h R
  have ⟨g1, g2⟩ := P.add_eq h (Q.add h R)
  have n1 := h.denp P.on Q.on
  have n2 := h.denm P.on Q.on
  have n3 := h.denp Q.on R.on
  have n4 := h.denm Q.on R.on
  have n5 := h.denp (P.add h Q).on R.on
  have n6 := h.denm (P.add h Q).on R.on
  have n7 := h.denp P.on (Q.add h R).on
  have n8 := h.denm P.on (Q.add h R).on
  have X := assoc_x P.on Q.on R.on
  have Y := assoc_y P.on Q.on R.on
  have p1 := h.ne_mul (h.ne_mul n1 n2) n5
  have p2 := h.ne_mul (h.ne_mul n3 n4) n7
  have p3 := h.ne_mul (h.ne_mul n1 n2) n6
  have p4 := h.ne_mul (h.ne_mul n3 n4) n8
  clear n1 n2 n3 n4 n5 n6 n7 n8
  generalize (P.add h Q).add h R = S at *
  generalize P.add h (Q.add h R) = T at *
  generalize P.add h Q = U at *
  generalize Q.add h R = V at *
  generalize P.x = x1 at *
  generalize P.y = y1 at *
  generalize Q.x = x2 at *
  generalize Q.y = y2 at *
  generalize R.x = x3 at *
  generalize R.y = y3 at *
  generalize U.x = ux at *
  generalize U.y = uy at *
  generalize V.x = vx at *
  generalize V.y = vy at *
  generalize hA : x1 * y2 + y1 * x2 = A at *
  generalize hB : y1 * y2 - x1 * x2 = B at *
  generalize hC : x2 * y3 + y2 * x3 = C at *
  generalize hD : y2 * y3 - x2 * x3 = D at *
  generalize hp : 1 + d * x1 * x2 * y1 * y2 = p' at *
  generalize hq : 1 - d * x1 * x2 * y1 * y2 = q' at *
  generalize hr : 1 + d * x2 * x3 * y2 * y3 = r' at *
  generalize hs : 1 - d * x2 * x3 * y2 * y3 = s' at *
  clear hA hB hC hD hp hq hr hs
  apply Pt.ext'
  · have k1 : p' * q' * (1 + d * ux * x3 * uy * y3) = p' * q' + d * A * B * x3 * y3 := by rw [← a1, ← a2]; grind
    have k2 : r' * s' * (1 + d * x1 * vx * y1 * vy) = r' * s' + d * C * D * x1 * y1 := by rw [← b1, ← b2]; grind
    refine cross h p1 p2 (n := A * y3 * q' + B * x3 * p') (m := C * y1 * s' + D * x1 * r') ?_ ?_ ?_
    · rw [← a1, ← a2]
      clear X Y k1 k2 p1 p2 p3 p4
      grind
    · rw [← b1, ← b2]
      clear X Y k1 k2 p1 p2 p3 p4
      grind
    · rw [k1, k2]; exact X
  · have k1 : p' * q' * (1 - d * ux * x3 * uy * y3) = p' * q' - d * A * B * x3 * y3 := by rw [← a1, ← a2]; grind
    have k2 : r' * s' * (1 - d * x1 * vx * y1 * vy) = r' * s' - d * C * D * x1 * y1 := by rw [← b1, ← b2]; grind
    refine cross h p3 p4 (n := B * y3 * p' - A * x3 * q') (m := D * y1 * r' - C * x1 * s') ?_ ?_ ?_
    · rw [← a1, ← a2]
      clear X Y k1 k2 p1 p2 p3 p4
      grind
    · rw [← b1, ← b2]
      clear X Y k1 k2 p1 p2 p3 p4
      grind
    · rw [k1, k2]; exact Y
end
end Go.Proofs.Ytmbbdblmengdhaa

/- Plain: multiples of a point; the ladder's steps on the curve. -/
namespace Go.Proofs.Ytmbbdblmengdhaa

section
variable {p : Nat} [NeZero p] {d : Fin p} (h : Good d)
include h

noncomputable def Pt.mul (P : Pt d) : Nat → Pt d
  | 0 => Pt.zero d
  | n + 1 => (P.mul n).add h P
theorem Pt.mul_add (P : Pt d) (m n : Nat) : P.mul h (m + n) = (P.mul h m).add h (P.mul h n) := by
  induction n with
  | zero => rw [Nat.add_zero, Pt.mul, Pt.add_zero]
  | succ n ih => rw [← Nat.add_assoc, Pt.mul, ih, Pt.mul, Pt.add_assoc]
theorem Pt.zero_mul (n : Nat) : (Pt.zero d).mul h n = Pt.zero d := by
  induction n with
  | zero => rfl
  | succ n ih => rw [Pt.mul, ih, Pt.add_zero]
theorem Pt.mul_mul (P : Pt d) (m n : Nat) : (P.mul h m).mul h n = P.mul h (m * n) := by
  induction n with
  | zero => rfl
  | succ n ih => rw [Pt.mul, ih, Nat.mul_succ, Pt.mul_add]
theorem Pt.mul_one (P : Pt d) : P.mul h 1 = P := by rw [Pt.mul, Pt.mul, Pt.zero_add]
/-- Where two multiples are nought, that by the greatest common divisor is. -/
theorem Pt.mul_gcd (P : Pt d) : ∀ m n, P.mul h m = Pt.zero d → P.mul h n = Pt.zero d → P.mul h (Nat.gcd m n) = Pt.zero d := by
  intro m n
  induction m, n using Nat.gcd.induction with
  | H0 n => intro _ hn; simpa using hn
  | H1 m n hm ih =>
    intro hm1 hn
    rw [Nat.gcd_rec]
    refine ih ?_ hm1
    rw [← Nat.div_add_mod n m, Pt.mul_add, ← Pt.mul_mul, hm1, Pt.zero_mul, Pt.zero_add] at hn
    exact hn

/-- y is 1 or -1: twice the point is nought. -/
theorem Pt.x_zero (P : Pt d) (hy : P.y * P.y = 1) : P.x = 0 := by
  have h1 := P.on
  have h3 : (1 - d) * P.x ^ 2 = 0 := by grind
  have h4 : 1 - d ≠ 0 := fun e => h.ns 1 (by grind)
  exact h.sq0 (h.mul0 h4 h3)
theorem Pt.twice (P : Pt d) (hy : P.y * P.y = 1) : P.add h P = Pt.zero d := by
  have hx := P.x_zero h hy
  have ⟨a1, a2⟩ := P.add_eq h P
  rw [hx] at a1 a2
  apply Pt.ext'
  · show _ = (0 : Fin p); grind
  · show _ = (1 : Fin p); grind
theorem Pt.zero_of_y (P : Pt d) (hy : P.y = 1) : P = Pt.zero d := by
  apply Pt.ext'
  · exact P.x_zero h (by rw [hy]; grind)
  · exact hy

/-- A pair X : Z stands for a point: (1 + y) : (1 - y). -/
def Rep (X Z : Fin p) (P : Pt d) : Prop := ∃ l : Fin p, l ≠ 0 ∧ X = l * (1 + P.y) ∧ Z = l * (1 - P.y)

theorem rep_zero : Rep (1 : Fin p) 0 (Pt.zero d) := by
  have e := h.iv h.two
  refine ⟨iv 2, h.iv_ne h.two, ?_, ?_⟩
  · show 1 = iv 2 * (1 + (1 : Fin p)); grind
  · show 0 = iv 2 * (1 - (1 : Fin p)); grind
theorem rep_base {P : Pt d} {u : Fin p} (hy : 1 - P.y ≠ 0) (hu : u * (1 - P.y) = 1 + P.y) : Rep u 1 P := by
  have e := h.iv hy
  refine ⟨iv (1 - P.y), h.iv_ne hy, ?_, ?_⟩
  · rw [← hu]; grind
  · grind

theorem one_sub {P : Pt d} : 1 - d * P.y ^ 2 ≠ 0 := by
  intro e
  by_cases hy : P.y = 0
  · rw [hy] at e; exact h.one (by grind)
  · have := h.iv hy
    exact h.ns (iv P.y) (by grind)

omit h in
theorem dbl_alg {x y d k l : Fin p} (on : x ^ 2 + y ^ 2 = 1 + d * x ^ 2 * y ^ 2) (hk : (k + 1) * d = k) {y2 : Fin p} (h2 : y2 * (1 - d * x * x * y * y) = y * y - x * x) :
    2 * ((l * (1 + y) + l * (1 - y)) ^ 2 * (l * (1 + y) - l * (1 - y)) ^ 2) = (16 * l ^ 4 * (k + 1) * (1 - d * y ^ 2) * (1 - d * x * x * y * y)) * (1 + y2) ∧
    2 * (((l * (1 + y) + l * (1 - y)) ^ 2 - (l * (1 + y) - l * (1 - y)) ^ 2) * ((l * (1 + y) + l * (1 - y)) ^ 2 + k * ((l * (1 + y) + l * (1 - y)) ^ 2 - (l * (1 + y) - l * (1 - y)) ^ 2))) = (16 * l ^ 4 * (k + 1) * (1 - d * y ^ 2) * (1 - d * x * x * y * y)) * (1 - y2) := by
  have e1 : l * (1 + y) + l * (1 - y) = 2 * l := by grind
  have e2 : l * (1 + y) - l * (1 - y) = 2 * l * y := by grind
  have e3 : (1 - d * x * x * y * y) * (1 + y2) = 2 * (1 - x ^ 2) := by grind
  have e4 : (1 - d * x * x * y * y) * (1 - y2) = 2 * (1 - y ^ 2) := by grind
  have e5 : (k + 1) * (1 - d * y ^ 2) * (1 - x ^ 2) = y ^ 2 := by grind
  have e6 : (k + 1) * (1 - d * y ^ 2) = 1 + k * (1 - y ^ 2) := by grind
  rw [e1, e2]
  clear on h2 hk
  constructor
  · have : 16 * l ^ 4 * (k + 1) * (1 - d * y ^ 2) * (1 - d * x * x * y * y) * (1 + y2) = 16 * l ^ 4 * ((k + 1) * (1 - d * y ^ 2)) * ((1 - d * x * x * y * y) * (1 + y2)) := by grind
    rw [this, e3]
    have : 16 * l ^ 4 * ((k + 1) * (1 - d * y ^ 2)) * (2 * (1 - x ^ 2)) = 32 * l ^ 4 * ((k + 1) * (1 - d * y ^ 2) * (1 - x ^ 2)) := by grind
    rw [this, e5]
    grind
  · have : 16 * l ^ 4 * (k + 1) * (1 - d * y ^ 2) * (1 - d * x * x * y * y) * (1 - y2) = 16 * l ^ 4 * ((k + 1) * (1 - d * y ^ 2)) * ((1 - d * x * x * y * y) * (1 - y2)) := by grind
    rw [this, e4, e6]
    grind

theorem rep_dbl {k X Z : Fin p} (hk : (k + 1) * d = k) (hk0 : k + 1 ≠ 0) {P : Pt d} (r : Rep X Z P) :
    Rep ((X + Z) ^ 2 * (X - Z) ^ 2) (((X + Z) ^ 2 - (X - Z) ^ 2) * ((X + Z) ^ 2 + k * ((X + Z) ^ 2 - (X - Z) ^ 2))) (P.add h P) := by
  obtain ⟨l, l0, rfl, rfl⟩ := r
  have two := h.two
  have a2 := (P.add_eq h P).2
  have dn := h.denm P.on P.on
  have d1 : 1 - d * P.y ^ 2 ≠ 0 := one_sub h
  have ⟨g1, g2⟩ := dbl_alg (l := l) P.on hk a2
  refine ⟨8 * l ^ 4 * (k + 1) * (1 - d * P.y ^ 2) * (1 - d * P.x * P.x * P.y * P.y), ?_, ?_, ?_⟩
  · have e8 : (8 : Fin p) ≠ 0 := by
      have e : (8 : Fin p) = 2 * 2 * 2 := by clear a2 dn d1 g1 g2; grind
      rw [e]; exact h.ne_mul (h.ne_mul two two) two
    have e4 : l ^ 4 ≠ 0 := by
      have e : l ^ 4 = l * l * (l * l) := by clear a2 dn d1 g1 g2; grind
      rw [e]; exact h.ne_mul (h.ne_mul l0 l0) (h.ne_mul l0 l0)
    exact h.ne_mul (h.ne_mul (h.ne_mul (h.ne_mul e8 e4) hk0) d1) dn
  · generalize 1 - d * P.x * P.x * P.y * P.y = A at *
    generalize 1 - d * P.y ^ 2 = B at *
    generalize (P.add h P).y = y2 at *
    generalize (l * (1 + P.y) + l * (1 - P.y)) ^ 2 * (l * (1 + P.y) - l * (1 - P.y)) ^ 2 = L at *
    clear g2 a2
    refine h.cancel two ?_
    rw [g1]; grind
  · generalize 1 - d * P.x * P.x * P.y * P.y = A at *
    generalize 1 - d * P.y ^ 2 = B at *
    generalize (P.add h P).y = y2 at *
    generalize ((l * (1 + P.y) + l * (1 - P.y)) ^ 2 - (l * (1 + P.y) - l * (1 - P.y)) ^ 2) * ((l * (1 + P.y) + l * (1 - P.y)) ^ 2 + k * ((l * (1 + P.y) + l * (1 - P.y)) ^ 2 - (l * (1 + P.y) - l * (1 - P.y)) ^ 2)) = L at *
    clear g1 a2
    refine h.cancel two ?_
    rw [g2]; grind

theorem dadd_alg {x2 y2 x3 y3 y5 y1 : Fin p} (e2 : x2 ^ 2 + y2 ^ 2 = 1 + d * x2 ^ 2 * y2 ^ 2) (e3 : x3 ^ 2 + y3 ^ 2 = 1 + d * x3 ^ 2 * y3 ^ 2)
    (hp : y5 * (1 - d * x2 * x3 * y2 * y3) = y2 * y3 - x2 * x3) (hm : y1 * (1 + d * x2 * x3 * y2 * y3) = y2 * y3 + x2 * x3) (n1 : 1 - d * x2 * x3 * y2 * y3 ≠ 0) (n2 : 1 + d * x2 * x3 * y2 * y3 ≠ 0) :
    (1 + y5) * (1 + y1) * (y3 - y2) ^ 2 = (1 - y5) * (1 - y1) * (y2 + y3) ^ 2 := by
  have k : (1 - d * x2 * x3 * y2 * y3 + (y2 * y3 - x2 * x3)) * (1 + d * x2 * x3 * y2 * y3 + (y2 * y3 + x2 * x3)) * (y3 - y2) ^ 2 = (1 - d * x2 * x3 * y2 * y3 - (y2 * y3 - x2 * x3)) * (1 + d * x2 * x3 * y2 * y3 - (y2 * y3 + x2 * x3)) * (y2 + y3) ^ 2 := by clear hp hm n1 n2; grind
  rw [← hp, ← hm] at k
  have hpq := h.ne_mul n1 n2
  generalize 1 - d * x2 * x3 * y2 * y3 = r at *
  generalize 1 + d * x2 * x3 * y2 * y3 = s at *
  clear hp hm e2 e3 n1 n2
  have : (r * s) * ((1 + y5) * (1 + y1) * (y3 - y2) ^ 2) = (r * s) * ((1 - y5) * (1 - y1) * (y2 + y3) ^ 2) := by grind
  exact h.cancel hpq this

theorem rep_dadd {X2 Z2 X3 Z3 u : Fin p} {P Q : Pt d} (r2 : Rep X2 Z2 P) (r3 : Rep X3 Z3 Q) {y1 : Fin p} (hy : y1 = (Q.add h P.neg).y) (hm : 1 - y1 ≠ 0) (hp : 1 + y1 ≠ 0) (hu : u * (1 - y1) = 1 + y1) :
    Rep (((X3 - Z3) * (X2 + Z2) + (X3 + Z3) * (X2 - Z2)) ^ 2) (u * ((X3 - Z3) * (X2 + Z2) - (X3 + Z3) * (X2 - Z2)) ^ 2) (P.add h Q) := by
  obtain ⟨l, l0, rfl, rfl⟩ := r2
  obtain ⟨m, m0, rfl, rfl⟩ := r3
  have two := h.two
  have a2 := (P.add_eq h Q).2
  have b2 := (Q.add_eq h P.neg).2
  have n1 := h.denm P.on Q.on
  have n2 := h.denp P.on Q.on
  rw [← hy] at b2
  simp only [Pt.neg] at b2
  have b3 : y1 * (1 + d * P.x * Q.x * P.y * Q.y) = P.y * Q.y + P.x * Q.x := by
    have e : 1 - d * Q.x * -P.x * Q.y * P.y = 1 + d * P.x * Q.x * P.y * Q.y := by grind
    rw [e] at b2; rw [b2]; grind
  have al := dadd_alg h P.on Q.on a2 b3 n1 n2
  have P1 := P.on
  have Q1 := Q.on
  clear b2 hy
  generalize hy5 : (P.add h Q).y = y5 at *
  generalize P.y = y2 at *
  generalize Q.y = y3 at *
  generalize P.x = x2 at *
  generalize Q.x = x3 at *
  have e1 : (m * (1 + y3) - m * (1 - y3)) * (l * (1 + y2) + l * (1 - y2)) + (m * (1 + y3) + m * (1 - y3)) * (l * (1 + y2) - l * (1 - y2)) = 4 * (l * m) * (y2 + y3) := by clear al P1 Q1 a2 b3; grind
  have e2 : (m * (1 + y3) - m * (1 - y3)) * (l * (1 + y2) + l * (1 - y2)) - (m * (1 + y3) + m * (1 - y3)) * (l * (1 + y2) - l * (1 - y2)) = 4 * (l * m) * (y3 - y2) := by clear al P1 Q1 a2 b3; grind
  rw [e1, e2]
  have c0 : 4 * (l * m) ≠ 0 := by
    have e : (4 : Fin p) * (l * m) = 2 * 2 * (l * m) := by clear al P1 Q1 a2 b3; grind
    rw [e]; exact h.ne_mul (h.ne_mul two two) (h.ne_mul l0 m0)
  generalize 4 * (l * m) = c at *
  clear e1 e2 l0 m0
  -- X * (1 - y5) = Z * (1 + y5)
  have kx : (c * (y2 + y3)) ^ 2 * (1 - y5) = u * (c * (y3 - y2)) ^ 2 * (1 + y5) := by
    have t : (1 - y1) * ((c * (y2 + y3)) ^ 2 * (1 - y5)) = (1 - y1) * (u * (c * (y3 - y2)) ^ 2 * (1 + y5)) := by
      have t1 : (1 - y1) * ((c * (y2 + y3)) ^ 2 * (1 - y5)) = c ^ 2 * ((1 - y5) * (1 - y1) * (y2 + y3) ^ 2) := by clear al P1 Q1 a2 b3 hu; grind
      have t2 : (1 - y1) * (u * (c * (y3 - y2)) ^ 2 * (1 + y5)) = c ^ 2 * ((u * (1 - y1)) * (y3 - y2) ^ 2 * (1 + y5)) := by clear al P1 Q1 a2 b3 hu; grind
      rw [t1, t2, ← al, hu]
      clear al P1 Q1 a2 b3 hu; grind
    exact h.cancel hm t
  have u0 : u ≠ 0 := fun e => hp (by rw [← hu, e]; clear al P1 Q1 a2 b3 kx; grind)
  -- not both nought
  have nz : (c * (y2 + y3)) ^ 2 + u * (c * (y3 - y2)) ^ 2 ≠ 0 := by
    intro e
    generalize hX : (c * (y2 + y3)) ^ 2 = X at *
    generalize hZ : u * (c * (y3 - y2)) ^ 2 = Z at *
    have kxx : X * 2 = 0 := by
      have : Z = - X := by clear al P1 Q1 a2 b3 hX hZ kx; grind
      rw [this] at kx
      clear al P1 Q1 a2 b3 hX hZ; grind
    have hX0 : X = 0 := h.mul0 two (by clear al P1 Q1 a2 b3 hX hZ kx; grind)
    have hZ0 : Z = 0 := by rw [hX0] at e; clear al P1 Q1 a2 b3 hX hZ kx; grind
    subst hX0
    subst hZ0
    have s1 : y2 + y3 = 0 := h.mul0 c0 (h.sq0 hX)
    have s2 : y3 - y2 = 0 := h.mul0 c0 (h.sq0 (h.mul0 u0 hZ))
    have s3 : y2 = 0 := h.mul0 two (by clear al P1 Q1 a2 b3 kx hX hZ; grind)
    have s4 : y3 = 0 := by rw [s3] at s1; clear al P1 Q1 a2 b3 kx hX hZ; grind
    subst s3
    subst s4
    have q1 : x2 ^ 2 = 1 := by clear al a2 b3 kx hX hZ; grind
    have q2 : x3 ^ 2 = 1 := by clear al a2 b3 kx hX hZ; grind
    have q3 : y1 = x2 * x3 := by clear al a2 kx hX hZ; grind
    have q4 : (1 - y1) * (1 + y1) = 0 := by clear al a2 kx hX hZ b3; grind
    exact h.ne_mul hm hp q4
  refine ⟨((c * (y2 + y3)) ^ 2 + u * (c * (y3 - y2)) ^ 2) * (iv (2 : Fin p)), ?_, ?_, ?_⟩
  · exact h.ne_mul nz (h.iv_ne two)
  · rw [hy5]
    generalize (c * (y2 + y3)) ^ 2 = X at *
    generalize u * (c * (y3 - y2)) ^ 2 = Z at *
    have i2 := h.iv two
    clear al P1 Q1 a2 b3 hu hp hm
    grind
  · rw [hy5]
    generalize (c * (y2 + y3)) ^ 2 = X at *
    generalize u * (c * (y3 - y2)) ^ 2 = Z at *
    have i2 := h.iv two
    clear al P1 Q1 a2 b3 hu hp hm
    grind
end
end Go.Proofs.Ytmbbdblmengdhaa

/- Plain: the ladder, over any operations; over a field it gives a multiple's place. -/
namespace Go.Proofs.Ytmbbdblmengdhaa

/-- Four numbers: both sides of the ladder. -/
structure Sides (α : Type) where
  x0 : α
  z0 : α
  x1 : α
  z1 : α
def Sides.swap {α : Type} (s : Sides α) : Sides α := ⟨s.x1, s.z1, s.x0, s.z0⟩
section
variable {α : Type} (add sub mul : α → α → α) (k u : α)
/-- A step: the one side is doubled, the other one added to it. -/
def stepG (s : Sides α) : Sides α :=
  let a := add s.x0 s.z0
  let b := sub s.x0 s.z0
  let c := add s.x1 s.z1
  let d := sub s.x1 s.z1
  let aa := mul a a
  let bb := mul b b
  let e := sub aa bb
  let da := mul d a
  let cb := mul c b
  let f := add da cb
  let g := sub da cb
  ⟨mul aa bb, mul e (add aa (mul k e)), mul f f, mul u (mul g g)⟩
def stepB (b : Bool) (s : Sides α) : Sides α := if b then (stepG add sub mul k u s.swap).swap else stepG add sub mul k u s
/-- n steps, by the bits; the first bit is bits 0. -/
def ladG (bits : Nat → Bool) (s : Sides α) : Nat → Sides α
  | 0 => s
  | n + 1 => stepB add sub mul k u (bits n) (ladG bits s n)
def Sides.map {β : Type} (f : α → β) (s : Sides α) : Sides β := ⟨f s.x0, f s.z0, f s.x1, f s.z1⟩
theorem ladG_map {β : Type} {add' sub' mul' : β → β → β} (f : α → β) (G : α → Prop) (ga : ∀ x y, G x → G y → G (add x y) ∧ f (add x y) = add' (f x) (f y)) (gs : ∀ x y, G x → G y → G (sub x y) ∧ f (sub x y) = sub' (f x) (f y))
    (gm : ∀ x y, G x → G y → G (mul x y) ∧ f (mul x y) = mul' (f x) (f y)) (hk : G k) (hu : G u) (bits : Nat → Bool) (s : Sides α) (hs : G s.x0 ∧ G s.z0 ∧ G s.x1 ∧ G s.z1) (n : Nat) :
    (G (ladG add sub mul k u bits s n).x0 ∧ G (ladG add sub mul k u bits s n).z0 ∧ G (ladG add sub mul k u bits s n).x1 ∧ G (ladG add sub mul k u bits s n).z1) ∧ (ladG add sub mul k u bits s n).map f = ladG add' sub' mul' (f k) (f u) bits (s.map f) n := by
  have key : ∀ s : Sides α, G s.x0 → G s.z0 → G s.x1 → G s.z1 → (G (stepG add sub mul k u s).x0 ∧ G (stepG add sub mul k u s).z0 ∧ G (stepG add sub mul k u s).x1 ∧ G (stepG add sub mul k u s).z1) ∧ (stepG add sub mul k u s).map f = stepG add' sub' mul' (f k) (f u) (s.map f) := by
    intro s g0 g1 g2 g3
    have ⟨a1, a2⟩ := ga _ _ g0 g1
    have ⟨b1, b2⟩ := gs _ _ g0 g1
    have ⟨c1, c2⟩ := ga _ _ g2 g3
    have ⟨d1, d2⟩ := gs _ _ g2 g3
    have ⟨aa1, aa2⟩ := gm _ _ a1 a1
    have ⟨bb1, bb2⟩ := gm _ _ b1 b1
    have ⟨e1, e2⟩ := gs _ _ aa1 bb1
    have ⟨da1, da2⟩ := gm _ _ d1 a1
    have ⟨cb1, cb2⟩ := gm _ _ c1 b1
    have ⟨f1, f2⟩ := ga _ _ da1 cb1
    have ⟨g1', g2'⟩ := gs _ _ da1 cb1
    have ⟨p1, p2⟩ := gm _ _ aa1 bb1
    have ⟨q1, q2⟩ := gm _ _ hk e1
    have ⟨r1, r2⟩ := ga _ _ aa1 q1
    have ⟨t1, t2⟩ := gm _ _ e1 r1
    have ⟨v1, v2⟩ := gm _ _ f1 f1
    have ⟨w1, w2⟩ := gm _ _ g1' g1'
    have ⟨x1, x2⟩ := gm _ _ hu w1
    refine ⟨⟨p1, t1, v1, x1⟩, ?_⟩
    simp only [stepG, Sides.map, a2, b2, c2, d2, aa2, bb2, e2, da2, cb2, f2, g2', p2, q2, r2, t2, v2, w2, x2]
  induction n with
  | zero => exact ⟨hs, rfl⟩
  | succ n ih =>
    obtain ⟨⟨h0, h1, h2, h3⟩, ih⟩ := ih
    simp only [ladG, stepB]
    cases bits n with
    | false =>
      simp only [Bool.false_eq_true, if_false]
      rw [← ih]
      exact key _ h0 h1 h2 h3
    | true =>
      simp only [if_true]
      rw [← ih]
      have ⟨⟨k0, k1, k2, k3⟩, k4⟩ := key (ladG add sub mul k u bits s n).swap h2 h3 h0 h1
      refine ⟨⟨k2, k3, k0, k1⟩, ?_⟩
      have e : ∀ t : Sides α, t.swap.map f = (t.map f).swap := fun _ => rfl
      rw [e, k4, e]
end

theorem ladG_shift {α : Type} (add sub mul : α → α → α) (k u : α) (bits : Nat → Bool) (s : Sides α) (n : Nat) : ladG add sub mul k u bits s (n + 1) = ladG add sub mul k u (fun i => bits (i + 1)) (stepB add sub mul k u (bits 0) s) n := by
  induction n with
  | zero => rfl
  | succ n ih => rw [ladG, ih]; rfl

/-- The number that the first n bits write, the first the highest. -/
def bitsN (bits : Nat → Bool) : Nat → Nat
  | 0 => 0
  | n + 1 => 2 * bitsN bits n + (if bits n then 1 else 0)

section
variable {p : Nat} [NeZero p] {d : Fin p} (h : Good d)
/-- The place that a point's ladder gives: (1 + y) / (1 - y). -/
noncomputable def uF (P : Pt d) : Fin p := (1 + P.y) * iv (1 - P.y)

include h
theorem iv_mul {a b : Fin p} (ha : a ≠ 0) : iv (a * b) = iv a * iv b := by
  by_cases hb : b = 0
  · subst hb
    have e : a * 0 = 0 := by grind
    rw [e, iv_zero]; grind
  · have h1 := h.iv (h.ne_mul ha hb)
    have h2 := h.iv ha
    have h3 := h.iv hb
    refine h.cancel (h.ne_mul ha hb) ?_
    rw [h1]
    have : a * b * (iv a * iv b) = (a * iv a) * (b * iv b) := by grind
    rw [this, h2, h3]; grind
theorem rep_out {X Z : Fin p} {P : Pt d} (r : Rep X Z P) : X * iv Z = uF P := by
  obtain ⟨l, l0, rfl, rfl⟩ := r
  rw [iv_mul h l0, uF]
  have e := h.iv l0
  have : l * (1 + P.y) * (iv l * iv (1 - P.y)) = (l * iv l) * ((1 + P.y) * iv (1 - P.y)) := by grind
  rw [this, e]; grind
theorem uF_ne {P : Pt d} (hu : uF P ≠ 0) : 1 - P.y ≠ 0 ∧ 1 + P.y ≠ 0 ∧ uF P * (1 - P.y) = 1 + P.y := by
  have h1 : 1 - P.y ≠ 0 := fun e => hu (by rw [uF, e, iv_zero]; grind)
  have h2 : 1 + P.y ≠ 0 := fun e => hu (by rw [uF, e]; grind)
  have e := h.iv h1
  refine ⟨h1, h2, ?_⟩
  rw [uF]
  have : (1 + P.y) * iv (1 - P.y) * (1 - P.y) = (1 + P.y) * ((1 - P.y) * iv (1 - P.y)) := by grind
  rw [this, e]; grind
theorem uF_zero {P : Pt d} (hu : uF P = 0) : P.add h P = Pt.zero d := by
  apply Pt.twice h
  by_cases h1 : 1 - P.y = 0
  · grind
  · have e : 1 + P.y = 0 := by
      rw [uF] at hu
      have e1 := h.iv_ne h1
      exact h.mul0 e1 (by rw [← hu]; grind)
    grind

abbrev fadd (a b : Fin p) : Fin p := a + b
abbrev fsub (a b : Fin p) : Fin p := a - b
abbrev fmul (a b : Fin p) : Fin p := a * b

/-- The ladder over a point: both sides stand for neighbouring multiples. -/
theorem lad_rep {k : Fin p} (hk : (k + 1) * d = k) (hk0 : k + 1 ≠ 0) {P : Pt d} {u : Fin p} (hm : 1 - P.y ≠ 0) (hp : 1 + P.y ≠ 0) (hu : u * (1 - P.y) = 1 + P.y) (bits : Nat → Bool) (n : Nat) :
    Rep (ladG fadd fsub fmul k u bits ⟨1, 0, u, 1⟩ n).x0 (ladG fadd fsub fmul k u bits ⟨1, 0, u, 1⟩ n).z0 (P.mul h (bitsN bits n)) ∧
    Rep (ladG fadd fsub fmul k u bits ⟨1, 0, u, 1⟩ n).x1 (ladG fadd fsub fmul k u bits ⟨1, 0, u, 1⟩ n).z1 (P.mul h (bitsN bits n + 1)) := by
  have step : ∀ (s : Sides (Fin p)) (A B : Pt d), Rep s.x0 s.z0 A → Rep s.x1 s.z1 B → (B.add h A.neg).y = P.y → Rep (stepG fadd fsub fmul k u s).x0 (stepG fadd fsub fmul k u s).z0 (A.add h A) ∧ Rep (stepG fadd fsub fmul k u s).x1 (stepG fadd fsub fmul k u s).z1 (A.add h B) := by
    intro s A B rA rB hy
    have r1 := rep_dbl h hk hk0 rA
    have r2 := rep_dadd h rA rB hy.symm hm hp hu
    have sq : ∀ x : Fin p, x ^ 2 = x * x := fun x => by grind
    simp only [sq] at r1 r2
    exact ⟨r1, r2⟩
  have sub1 : ∀ m, (P.mul h (m + 1)).add h (P.mul h m).neg = P := by
    intro m
    rw [show m + 1 = 1 + m by omega, Pt.mul_add, Pt.add_assoc, Pt.add_neg, Pt.add_zero, Pt.mul_one]
  have sub2 : ∀ m, ((P.mul h m).add h (P.mul h (m + 1)).neg).y = P.y := by
    intro m
    have e1 : (P.mul h m).add h (P.mul h (m + 1)).neg = P.neg := by
      have e0 : ∀ A B C : Pt d, A.add h B.neg = C → B.add h A.neg = C.neg := by
        intro A B C e
        have e2 : A = C.add h B := by rw [← e, Pt.add_assoc, Pt.add_comm h B.neg B, Pt.add_neg, Pt.add_zero]
        have e3 : ∀ U V : Pt d, U.add h V = Pt.zero d → V = U.neg := by
          intro U V e
          have : U.neg.add h (U.add h V) = U.neg := by rw [e, Pt.add_zero]
          rw [← Pt.add_assoc, Pt.add_comm h U.neg U, Pt.add_neg, Pt.zero_add] at this
          exact this
        apply e3
        rw [← Pt.add_assoc, Pt.add_comm h C B, Pt.add_comm h B C, ← e2, Pt.add_neg]
      exact e0 _ _ _ (sub1 m)
    rw [e1]; rfl
  induction n with
  | zero =>
    refine ⟨rep_zero h, ?_⟩
    simp only [ladG, bitsN, Nat.zero_add]
    rw [Pt.mul_one]
    exact rep_base h hm hu
  | succ n ih =>
    obtain ⟨i0, i1⟩ := ih
    simp only [ladG, stepB, bitsN]
    cases bits n with
    | false =>
      simp only [Bool.false_eq_true, if_false, Nat.add_zero]
      have ⟨s0, s1⟩ := step _ _ _ i0 i1 (by rw [sub1])
      rw [← Pt.mul_add] at s0 s1
      rw [show 2 * bitsN bits n = bitsN bits n + bitsN bits n by omega]
      exact ⟨s0, by rw [Nat.add_assoc]; exact s1⟩
    | true =>
      simp only [if_true]
      have ⟨s0, s1⟩ := step (ladG fadd fsub fmul k u bits ⟨1, 0, u, 1⟩ n).swap _ _ i1 i0 (sub2 _)
      rw [← Pt.mul_add] at s0 s1
      rw [show 2 * bitsN bits n + 1 = bitsN bits n + 1 + bitsN bits n by omega]
      exact ⟨s1, by rw [show bitsN bits n + 1 + bitsN bits n + 1 = bitsN bits n + 1 + (bitsN bits n + 1) by omega]; exact s0⟩
theorem lad_out {k : Fin p} (hk : (k + 1) * d = k) (hk0 : k + 1 ≠ 0) {P : Pt d} (hu : uF P ≠ 0) (bits : Nat → Bool) (n : Nat) :
    (ladG fadd fsub fmul k (uF P) bits ⟨1, 0, uF P, 1⟩ n).x0 * iv (ladG fadd fsub fmul k (uF P) bits ⟨1, 0, uF P, 1⟩ n).z0 = uF (P.mul h (bitsN bits n)) := by
  have ⟨h1, h2, h3⟩ := uF_ne h hu
  exact rep_out h (lad_rep h hk hk0 h1 h2 h3 bits n).1

/-! ### Scaled sides: a step keeps the fractions -/
structure Scaled (s t : Sides (Fin p)) : Prop where
  zero : ∃ l, l ≠ 0 ∧ t.x0 = l * s.x0 ∧ t.z0 = l * s.z0
  one : ∃ l, l ≠ 0 ∧ t.x1 = l * s.x1 ∧ t.z1 = l * s.z1
omit h in
theorem Scaled.swap {s t : Sides (Fin p)} (g : Scaled s t) : Scaled s.swap t.swap := ⟨g.one, g.zero⟩
theorem Scaled.step {s t : Sides (Fin p)} {k u : Fin p} (g : Scaled s t) : Scaled (stepG fadd fsub fmul k u s) (stepG fadd fsub fmul k u t) := by
  obtain ⟨l, l0, e1, e2⟩ := g.zero
  obtain ⟨m, m0, e3, e4⟩ := g.one
  refine ⟨⟨l * l * (l * l), h.ne_mul (h.ne_mul l0 l0) (h.ne_mul l0 l0), ?_, ?_⟩, ⟨l * m * (l * m), h.ne_mul (h.ne_mul l0 m0) (h.ne_mul l0 m0), ?_, ?_⟩⟩
  · simp only [stepG, e1, e2, fadd, fsub, fmul]; grind
  · simp only [stepG, e1, e2, fadd, fsub, fmul]; grind
  · simp only [stepG, e1, e2, e3, e4, fadd, fsub, fmul]; grind
  · simp only [stepG, e1, e2, e3, e4, fadd, fsub, fmul]; grind
theorem Scaled.lad {s t : Sides (Fin p)} {k u : Fin p} (g : Scaled s t) (bits : Nat → Bool) (n : Nat) : Scaled (ladG fadd fsub fmul k u bits s n) (ladG fadd fsub fmul k u bits t n) := by
  induction n with
  | zero => exact g
  | succ n ih =>
    simp only [ladG, stepB]
    cases bits n with
    | false => exact ih.step h
    | true => exact (ih.swap.step h).swap
theorem Scaled.out {s t : Sides (Fin p)} (g : Scaled s t) : t.x0 * iv t.z0 = s.x0 * iv s.z0 := by
  obtain ⟨l, l0, e1, e2⟩ := g.zero
  rw [e1, e2, iv_mul h l0]
  have := h.iv l0
  have e : l * s.x0 * (iv l * iv s.z0) = (l * iv l) * (s.x0 * iv s.z0) := by grind
  rw [e, this]; grind
/-- One more bit ahead, a 0, then a 1: the same comes out. -/
theorem lad_more (k u : Fin p) (bits : Nat → Bool) (h0 : bits 0 = false) (h1 : bits 1 = true) (n : Nat) :
    (ladG fadd fsub fmul k u bits ⟨1, 0, u, 1⟩ (n + 2)).x0 * iv (ladG fadd fsub fmul k u bits ⟨1, 0, u, 1⟩ (n + 2)).z0 =
    (ladG fadd fsub fmul k u (fun i => bits (i + 1)) ⟨1, 0, u, 1⟩ (n + 1)).x0 * iv (ladG fadd fsub fmul k u (fun i => bits (i + 1)) ⟨1, 0, u, 1⟩ (n + 1)).z0 := by
  rw [ladG_shift]
  by_cases hu : u = 0
  · subst hu
    rw [ladG_shift, ladG_shift]
    -- the one side is 0 : 0 from here on
    have key : ∀ (bits : Nat → Bool) (s : Sides (Fin p)) (n : Nat), s.x0 = 0 → s.z0 = 0 → (ladG fadd fsub fmul k 0 bits s n).x0 = 0 ∧ (ladG fadd fsub fmul k 0 bits s n).z0 = 0 := by
      intro bits s n e1 e2
      induction n with
      | zero => exact ⟨e1, e2⟩
      | succ n ih =>
        obtain ⟨i1, i2⟩ := ih
        simp only [ladG, stepB]
        cases bits n with
        | false =>
          simp only [Bool.false_eq_true, if_false, stepG, i1, i2, fadd, fsub, fmul]
          constructor <;> grind
        | true =>
          simp only [if_true, stepG, Sides.swap, i1, i2, fadd, fsub, fmul]
          constructor <;> grind
    have a := key (fun i => bits (i + 1 + 1)) (stepB fadd fsub fmul k 0 (bits (0 + 1)) (stepB fadd fsub fmul k 0 (bits 0) ⟨1, 0, 0, 1⟩)) n (by
      rw [Nat.zero_add, h0, h1]; simp only [stepB, if_true, Bool.false_eq_true, if_false, stepG, Sides.swap, fadd, fsub, fmul]; grind) (by
      rw [Nat.zero_add, h0, h1]; simp only [stepB, if_true, Bool.false_eq_true, if_false, stepG, Sides.swap, fadd, fsub, fmul]; grind)
    have b := key (fun i => bits (i + 1 + 1)) (stepB fadd fsub fmul k 0 (bits (0 + 1)) ⟨1, 0, 0, 1⟩) n (by
      rw [Nat.zero_add, h1]; simp only [stepB, if_true, stepG, Sides.swap, fadd, fsub, fmul]; grind) (by
      rw [Nat.zero_add, h1]; simp only [stepB, if_true, stepG, Sides.swap, fadd, fsub, fmul]; grind)
    rw [a.1, a.2, b.1, b.2]
  · refine Scaled.out h (Scaled.lad h ?_ _ _)
    rw [h0]
    simp only [stepB, Bool.false_eq_true, if_false]
    have two := h.two
    refine ⟨⟨1, h.one, ?_, ?_⟩, ⟨2 * 2 * u, h.ne_mul (h.ne_mul two two) hu, ?_, ?_⟩⟩ <;> (simp only [stepG, fadd, fsub, fmul]; grind)
end
end Go.Proofs.Ytmbbdblmengdhaa
