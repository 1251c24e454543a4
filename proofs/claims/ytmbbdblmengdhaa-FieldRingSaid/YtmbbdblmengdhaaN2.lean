/- Plain: a complete Edwards curve over any field in which d is no square: a group; the ladder's steps on it. -/
namespace Go.Proofs.Ytmbbdblmengdhaa

section
variable {p : Nat} [NeZero p]

/-- Numbers modulo p where each but 0 has an inverse; d is no square, and 2 is not 0. -/
structure Good (d : Fin p) : Prop where
  one : (1 : Fin p) ≠ 0
  inv : ∀ a : Fin p, a ≠ 0 → ∃ b, a * b = 1
  two : (2 : Fin p) ≠ 0
  ns : ∀ z : Fin p, z ^ 2 ≠ d

open Classical in
noncomputable def iv (a : Fin p) : Fin p := if h : a ≠ 0 ∧ ∃ b, a * b = 1 then Classical.choose h.2 else 0
theorem iv_zero : iv (0 : Fin p) = 0 := dif_neg fun h => h.1 rfl
theorem Good.iv {d : Fin p} (h : Good d) {a : Fin p} (ha : a ≠ 0) : a * iv a = 1 := by
  have hx : a ≠ 0 ∧ ∃ b, a * b = 1 := ⟨ha, h.inv a ha⟩
  have e : Proofs.Ytmbbdblmengdhaa.iv a = Classical.choose hx.2 := dif_pos hx
  rw [e]; exact Classical.choose_spec hx.2
theorem Good.cancel {d : Fin p} (h : Good d) {a b c : Fin p} (hc : c ≠ 0) (e : c * a = c * b) : a = b := by
  obtain ⟨i, hi⟩ := h.inv c hc
  have : i * (c * a) = i * (c * b) := by rw [e]
  grind
theorem Good.ne_mul {d : Fin p} (h : Good d) {a b : Fin p} (ha : a ≠ 0) (hb : b ≠ 0) : a * b ≠ 0 := fun e =>
  hb (h.cancel ha (by rw [e]; grind))
theorem Good.mul0 {d : Fin p} (h : Good d) {a b : Fin p} (ha : a ≠ 0) (e : a * b = 0) : b = 0 := h.cancel ha (by rw [e]; grind)
theorem Good.sq0 {d : Fin p} (h : Good d) {a : Fin p} (e : a ^ 2 = 0) : a = 0 := by
  by_cases ha : a = 0
  · exact ha
  · exact h.mul0 ha (by grind)
theorem Good.iv_ne {d : Fin p} (h : Good d) {a : Fin p} (ha : a ≠ 0) : Proofs.Ytmbbdblmengdhaa.iv a ≠ 0 := fun e => by
  have := h.iv ha
  rw [e] at this
  exact h.one (by grind)

@[ext] structure Pt (d : Fin p) where
  x : Fin p
  y : Fin p
  on : x ^ 2 + y ^ 2 = 1 + d * x ^ 2 * y ^ 2

theorem den1 {d x1 y1 x2 y2 s : Fin p} (e1 : x1 ^ 2 + y1 ^ 2 = 1 + d * x1 ^ 2 * y1 ^ 2) (e2 : x2 ^ 2 + y2 ^ 2 = 1 + d * x2 ^ 2 * y2 ^ 2) (hs : s * s = 1) (hD : d * x1 * x2 * y1 * y2 = s) :
    d * x1 ^ 2 * y1 ^ 2 * (x2 ^ 2 + y2 ^ 2) = x1 ^ 2 + y1 ^ 2 := by
  have : d * x1 ^ 2 * y1 ^ 2 * (1 + d * x2 ^ 2 * y2 ^ 2) = d * x1 ^ 2 * y1 ^ 2 + (d * x1 * x2 * y1 * y2) * (d * x1 * x2 * y1 * y2) := by grind
  rw [e2, e1, this, hD, hs]; grind
theorem den2 {d x1 y1 x2 y2 s : Fin p} (hs : s * s = 1) (hD : d * x1 * x2 * y1 * y2 = s) (k : d * x1 ^ 2 * y1 ^ 2 * (x2 ^ 2 + y2 ^ 2) = x1 ^ 2 + y1 ^ 2) :
    (x1 + s * y1) ^ 2 = d * (x1 * y1 * (x2 + y2)) ^ 2 ∧ (x1 - s * y1) ^ 2 = d * (x1 * y1 * (x2 - y2)) ^ 2 := by
  have a1 : (x1 + s * y1) ^ 2 = x1 ^ 2 + (s * s) * y1 ^ 2 + 2 * s * (x1 * y1) := by grind
  have a2 : (x1 - s * y1) ^ 2 = x1 ^ 2 + (s * s) * y1 ^ 2 - 2 * s * (x1 * y1) := by grind
  have a3 : d * (x1 * y1 * (x2 + y2)) ^ 2 = d * x1 ^ 2 * y1 ^ 2 * (x2 ^ 2 + y2 ^ 2) + 2 * (d * x1 * x2 * y1 * y2) * (x1 * y1) := by grind
  have a4 : d * (x1 * y1 * (x2 - y2)) ^ 2 = d * x1 ^ 2 * y1 ^ 2 * (x2 ^ 2 + y2 ^ 2) - 2 * (d * x1 * x2 * y1 * y2) * (x1 * y1) := by grind
  rw [a1, a2, a3, a4, hs, hD, k]
  constructor <;> grind
theorem Good.den {d : Fin p} (h : Good d) {x1 y1 x2 y2 s : Fin p} (e1 : x1 ^ 2 + y1 ^ 2 = 1 + d * x1 ^ 2 * y1 ^ 2) (e2 : x2 ^ 2 + y2 ^ 2 = 1 + d * x2 ^ 2 * y2 ^ 2) (hs : s * s = 1) (hD : d * x1 * x2 * y1 * y2 = s) : False := by
  have h1 := h.one
  have s0 : s ≠ 0 := fun e => h1 (by rw [← hs, e]; grind)
  have hx1 : x1 ≠ 0 := fun e => s0 (by rw [← hD, e]; grind)
  have hy1 : y1 ≠ 0 := fun e => s0 (by rw [← hD, e]; grind)
  have hx2 : x2 ≠ 0 := fun e => s0 (by rw [← hD, e]; grind)
  have hy2 : y2 ≠ 0 := fun e => s0 (by rw [← hD, e]; grind)
  have k1 := den1 e1 e2 hs hD
  have ⟨k2, k3⟩ := den2 hs hD k1
  clear k1 e1 e2 hs hD
  have fin : ∀ u v : Fin p, v ≠ 0 → u ^ 2 = d * v ^ 2 → False := by
    intro u v hv e
    obtain ⟨i, hi⟩ := h.inv v hv
    refine h.ns (u * i) ?_
    have : (u * i) ^ 2 = u ^ 2 * i ^ 2 := by grind
    rw [this, e]
    have : d * v ^ 2 * i ^ 2 = d * (v * i) ^ 2 := by grind
    rw [this, hi]; grind
  by_cases hp : x2 + y2 = 0
  · have hm : x2 - y2 ≠ 0 := fun hm => hx2 (h.mul0 h.two (by grind))
    exact fin _ _ (h.ne_mul (h.ne_mul hx1 hy1) hm) k3
  · exact fin _ _ (h.ne_mul (h.ne_mul hx1 hy1) hp) k2
theorem Good.denp {d : Fin p} (h : Good d) {x1 y1 x2 y2 : Fin p} (e1 : x1 ^ 2 + y1 ^ 2 = 1 + d * x1 ^ 2 * y1 ^ 2) (e2 : x2 ^ 2 + y2 ^ 2 = 1 + d * x2 ^ 2 * y2 ^ 2) : 1 + d * x1 * x2 * y1 * y2 ≠ 0 :=
  fun e => h.den e1 e2 (s := -1) (by grind) (by grind)
theorem Good.denm {d : Fin p} (h : Good d) {x1 y1 x2 y2 : Fin p} (e1 : x1 ^ 2 + y1 ^ 2 = 1 + d * x1 ^ 2 * y1 ^ 2) (e2 : x2 ^ 2 + y2 ^ 2 = 1 + d * x2 ^ 2 * y2 ^ 2) : 1 - d * x1 * x2 * y1 * y2 ≠ 0 :=
  fun e => h.den e1 e2 (s := 1) (by grind) (by grind)

theorem closed {d x1 y1 x2 y2 u v : Fin p} (e1 : x1 ^ 2 + y1 ^ 2 = 1 + d * x1 ^ 2 * y1 ^ 2) (e2 : x2 ^ 2 + y2 ^ 2 = 1 + d * x2 ^ 2 * y2 ^ 2)
    (hu : (1 + d * x1 * x2 * y1 * y2) * u = 1) (hv : (1 - d * x1 * x2 * y1 * y2) * v = 1) :
    ((x1 * y2 + y1 * x2) * u) ^ 2 + ((y1 * y2 - x1 * x2) * v) ^ 2 = 1 + d * ((x1 * y2 + y1 * x2) * u) ^ 2 * ((y1 * y2 - x1 * x2) * v) ^ 2 := by
  have k : (x1 * y2 + y1 * x2) ^ 2 * (1 - d * x1 * x2 * y1 * y2) ^ 2 + (y1 * y2 - x1 * x2) ^ 2 * (1 + d * x1 * x2 * y1 * y2) ^ 2 = (1 + d * x1 * x2 * y1 * y2) ^ 2 * (1 - d * x1 * x2 * y1 * y2) ^ 2 + d * (x1 * y2 + y1 * x2) ^ 2 * (y1 * y2 - x1 * x2) ^ 2 := by grind
  generalize x1 * y2 + y1 * x2 = n at *
  generalize y1 * y2 - x1 * x2 = m at *
  generalize 1 + d * x1 * x2 * y1 * y2 = p at *
  generalize 1 - d * x1 * x2 * y1 * y2 = q at *
  have : (n ^ 2 * q ^ 2 + m ^ 2 * p ^ 2) * (u ^ 2 * v ^ 2) = (p ^ 2 * q ^ 2 + d * n ^ 2 * m ^ 2) * (u ^ 2 * v ^ 2) := by rw [k]
  clear k e1 e2
  grind

theorem assoc_x {d x1 y1 x2 y2 x3 y3 : Fin p} (e1 : x1 ^ 2 + y1 ^ 2 = 1 + d * x1 ^ 2 * y1 ^ 2) (e2 : x2 ^ 2 + y2 ^ 2 = 1 + d * x2 ^ 2 * y2 ^ 2) (e3 : x3 ^ 2 + y3 ^ 2 = 1 + d * x3 ^ 2 * y3 ^ 2) :
    ((x1 * y2 + y1 * x2) * y3 * (1 - d * x1 * x2 * y1 * y2) + (y1 * y2 - x1 * x2) * x3 * (1 + d * x1 * x2 * y1 * y2)) * ((1 + d * x2 * x3 * y2 * y3) * (1 - d * x2 * x3 * y2 * y3) + d * (x2 * y3 + y2 * x3) * (y2 * y3 - x2 * x3) * x1 * y1) =
    ((x2 * y3 + y2 * x3) * y1 * (1 - d * x2 * x3 * y2 * y3) + (y2 * y3 - x2 * x3) * x1 * (1 + d * x2 * x3 * y2 * y3)) * ((1 + d * x1 * x2 * y1 * y2) * (1 - d * x1 * x2 * y1 * y2) + d * (x1 * y2 + y1 * x2) * (y1 * y2 - x1 * x2) * x3 * y3) := by grind
theorem assoc_y {d x1 y1 x2 y2 x3 y3 : Fin p} (e1 : x1 ^ 2 + y1 ^ 2 = 1 + d * x1 ^ 2 * y1 ^ 2) (e2 : x2 ^ 2 + y2 ^ 2 = 1 + d * x2 ^ 2 * y2 ^ 2) (e3 : x3 ^ 2 + y3 ^ 2 = 1 + d * x3 ^ 2 * y3 ^ 2) :
    ((y1 * y2 - x1 * x2) * y3 * (1 + d * x1 * x2 * y1 * y2) - (x1 * y2 + y1 * x2) * x3 * (1 - d * x1 * x2 * y1 * y2)) * ((1 + d * x2 * x3 * y2 * y3) * (1 - d * x2 * x3 * y2 * y3) - d * (x2 * y3 + y2 * x3) * (y2 * y3 - x2 * x3) * x1 * y1) =
    ((y2 * y3 - x2 * x3) * y1 * (1 + d * x2 * x3 * y2 * y3) - (x2 * y3 + y2 * x3) * x1 * (1 - d * x2 * x3 * y2 * y3)) * ((1 + d * x1 * x2 * y1 * y2) * (1 - d * x1 * x2 * y1 * y2) - d * (x1 * y2 + y1 * x2) * (y1 * y2 - x1 * x2) * x3 * y3) := by grind

theorem Pt.ext' {d : Fin p} {P Q : Pt d} (hx : P.x = Q.x) (hy : P.y = Q.y) : P = Q := by
  cases P; cases Q; simp only at hx hy; subst hx; subst hy; rfl

variable {d : Fin p} (h : Good d)

noncomputable def Pt.add (P Q : Pt d) : Pt d :=
  ⟨(P.x * Q.y + P.y * Q.x) * iv (1 + d * P.x * Q.x * P.y * Q.y), (P.y * Q.y - P.x * Q.x) * iv (1 - d * P.x * Q.x * P.y * Q.y),
    closed P.on Q.on (h.iv (h.denp P.on Q.on)) (h.iv (h.denm P.on Q.on))⟩
def Pt.zero (d : Fin p) : Pt d := ⟨0, 1, by grind⟩
def Pt.neg (P : Pt d) : Pt d := ⟨-P.x, P.y, by have := P.on; grind⟩

theorem Pt.add_eq (P Q : Pt d) : (P.add h Q).x * (1 + d * P.x * Q.x * P.y * Q.y) = P.x * Q.y + P.y * Q.x ∧ (P.add h Q).y * (1 - d * P.x * Q.x * P.y * Q.y) = P.y * Q.y - P.x * Q.x := by
  have h1 := h.iv (h.denp P.on Q.on)
  have h2 := h.iv (h.denm P.on Q.on)
  simp only [Pt.add]
  generalize iv (1 + d * P.x * Q.x * P.y * Q.y) = u at *
  generalize iv (1 - d * P.x * Q.x * P.y * Q.y) = v at *
  generalize 1 + d * P.x * Q.x * P.y * Q.y = a at *
  generalize 1 - d * P.x * Q.x * P.y * Q.y = b at *
  constructor <;> grind
theorem Pt.add_comm (P Q : Pt d) : P.add h Q = Q.add h P := by
  apply Pt.ext'
  · simp only [Pt.add]
    have e1 : Q.x * P.y + Q.y * P.x = P.x * Q.y + P.y * Q.x := by grind
    have e2 : 1 + d * Q.x * P.x * Q.y * P.y = 1 + d * P.x * Q.x * P.y * Q.y := by grind
    rw [e1, e2]
  · simp only [Pt.add]
    have e1 : Q.y * P.y - Q.x * P.x = P.y * Q.y - P.x * Q.x := by grind
    have e2 : 1 - d * Q.x * P.x * Q.y * P.y = 1 - d * P.x * Q.x * P.y * Q.y := by grind
    rw [e1, e2]
theorem Pt.add_zero (P : Pt d) : P.add h (Pt.zero d) = P := by
  have ⟨h1, h2⟩ := P.add_eq h (Pt.zero d)
  simp only [Pt.zero] at h1 h2
  apply Pt.ext' <;> grind [Pt.zero]
theorem Pt.zero_add (P : Pt d) : (Pt.zero d).add h P = P := by rw [Pt.add_comm, Pt.add_zero]
theorem Pt.add_neg (P : Pt d) : P.add h P.neg = Pt.zero d := by
  have ⟨h1, h2⟩ := P.add_eq h P.neg
  have h3 := h.denp P.on P.neg.on
  have h4 := h.denm P.on P.neg.on
  simp only [Pt.neg] at h1 h2 h3 h4
  have := P.on
  apply Pt.ext'
  · have e : (P.add h P.neg).x * (1 + d * P.x * -P.x * P.y * P.y) = 0 := by rw [show (P.add h P.neg) = (P.add h ⟨-P.x, P.y, P.neg.on⟩) from rfl, h1]; grind
    show (P.add h P.neg).x = 0
    exact h.mul0 h3 (by rw [← e]; grind)
  · have e : (P.add h P.neg).y * (1 - d * P.x * -P.x * P.y * P.y) = (1 - d * P.x * -P.x * P.y * P.y) := by rw [show (P.add h P.neg) = (P.add h ⟨-P.x, P.y, P.neg.on⟩) from rfl, h2]; grind
    show (P.add h P.neg).y = 1
    exact h.cancel h4 (by rw [show ∀ z w : Fin p, w * z = z * w from fun z w => by grind, e]; grind)

theorem cross {d : Fin p} (h : Good d) {a b n m r s : Fin p} (hp : r ≠ 0) (hq : s ≠ 0) (h1 : a * r = n) (h2 : b * s = m) (h3 : n * s = m * r) : a = b := by
  refine h.cancel (h.ne_mul hp hq) ?_
  have e1 : r * s * a = (a * r) * s := by grind
  have e2 : r * s * b = (b * s) * r := by grind
  rw [e1, e2, h1, h2, h3]

theorem Pt.add_assoc (P Q R : Pt d) : (P.add h Q).add h R = P.add h (Q.add h R) := by
  have ⟨a1, a2⟩ := P.add_eq h Q
  have ⟨b1, b2⟩ := Q.add_eq h R
  have ⟨c1, c2⟩ := (P.add h Q).add_eq h R
  have ⟨g1, g2⟩ := P.add_eq h (Q.add h R)
  have n1 := h.denp P.on Q.on
  have n2 := h.denm P.on Q.on
  have n3 := h.denp Q.on R.on
  have n4 := h.denm Q.on R.on
  have n5 := h.denp (P.add h Q).on R.on
  have n6 := h.denm (P.add h Q).on R.on
  have n7 := h.denp P.on (Q.add h R).on
  have n8 := h.denm P.on (Q.add h R).on
  have X := assoc_x P.on Q.on R.on
  have Y := assoc_y P.on Q.on R.on
  have p1 := h.ne_mul (h.ne_mul n1 n2) n5
  have p2 := h.ne_mul (h.ne_mul n3 n4) n7
  have p3 := h.ne_mul (h.ne_mul n1 n2) n6
  have p4 := h.ne_mul (h.ne_mul n3 n4) n8
  clear n1 n2 n3 n4 n5 n6 n7 n8
  generalize (P.add h Q).add h R = S at *
  generalize P.add h (Q.add h R) = T at *
  generalize P.add h Q = U at *
  generalize Q.add h R = V at *
  generalize P.x = x1 at *
  generalize P.y = y1 at *
  generalize Q.x = x2 at *
  generalize Q.y = y2 at *
  generalize R.x = x3 at *
  generalize R.y = y3 at *
  generalize U.x = ux at *
  generalize U.y = uy at *
  generalize V.x = vx at *
  generalize V.y = vy at *
  generalize hA : x1 * y2 + y1 * x2 = A at *
  generalize hB : y1 * y2 - x1 * x2 = B at *
  generalize hC : x2 * y3 + y2 * x3 = C at *
  generalize hD : y2 * y3 - x2 * x3 = D at *
  generalize hp : 1 + d * x1 * x2 * y1 * y2 = p' at *
  generalize hq : 1 - d * x1 * x2 * y1 * y2 = q' at *
  generalize hr : 1 + d * x2 * x3 * y2 * y3 = r' at *
  generalize hs : 1 - d * x2 * x3 * y2 * y3 = s' at *
  clear hA hB hC hD hp hq hr hs
  apply Pt.ext'
  · have k1 : p' * q' * (1 + d * ux * x3 * uy * y3) = p' * q' + d * A * B * x3 * y3 := by rw [← a1, ← a2]; grind
    have k2 : r' * s' * (1 + d * x1 * vx * y1 * vy) = r' * s' + d * C * D * x1 * y1 := by rw [← b1, ← b2]; grind
    refine cross h p1 p2 (n := A * y3 * q' + B * x3 * p') (m := C * y1 * s' + D * x1 * r') ?_ ?_ ?_
    · rw [← a1, ← a2]
      clear X Y k1 k2 p1 p2 p3 p4
      grind
    · rw [← b1, ← b2]
      clear X Y k1 k2 p1 p2 p3 p4
      grind
    · rw [k1, k2]; exact X
  · have k1 : p' * q' * (1 - d * ux * x3 * uy * y3) = p' * q' - d * A * B * x3 * y3 := by rw [← a1, ← a2]; grind
    have k2 : r' * s' * (1 - d * x1 * vx * y1 * vy) = r' * s' - d * C * D * x1 * y1 := by rw [← b1, ← b2]; grind
    refine cross h p3 p4 (n := B * y3 * p' - A * x3 * q') (m := D * y1 * r' - C * x1 * s') ?_ ?_ ?_
    · rw [← a1, ← a2]
      clear X Y k1 k2 p1 p2 p3 p4
      grind
    · rw [← b1, ← b2]
      clear X Y k1 k2 p1 p2 p3 p4
      grind
    · rw [k1, k2]; exact Y
end
end Go.Proofs.Ytmbbdblmengdhaa
