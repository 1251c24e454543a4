/- Plain: the ladder, over any operations; over a field it gives a multiple's place. -/
import Derived.Test.YtmbbdblmengdhaaN3
set_option linter.unusedSimpArgs false
set_option linter.unusedVariables false
namespace Go.Proofs.Ytmbbdblmengdhaa

/-- Four numbers: both sides of the ladder. -/
structure Sides (α : Type) where
  x0 : α
  z0 : α
  x1 : α
  z1 : α
def Sides.swap {α : Type} (s : Sides α) : Sides α := ⟨s.x1, s.z1, s.x0, s.z0⟩
section
variable {α : Type} (add sub mul : α → α → α) (k u : α)
/-- A step: the one side is doubled, the other one added to it. -/
def stepG (s : Sides α) : Sides α :=
  let a := add s.x0 s.z0
  let b := sub s.x0 s.z0
  let c := add s.x1 s.z1
  let d := sub s.x1 s.z1
  let aa := mul a a
  let bb := mul b b
  let e := sub aa bb
  let da := mul d a
  let cb := mul c b
  let f := add da cb
  let g := sub da cb
  ⟨mul aa bb, mul e (add aa (mul k e)), mul f f, mul u (mul g g)⟩
def stepB (b : Bool) (s : Sides α) : Sides α := if b then (stepG add sub mul k u s.swap).swap else stepG add sub mul k u s
/-- n steps, by the bits; the first bit is bits 0. -/
def ladG (bits : Nat → Bool) (s : Sides α) : Nat → Sides α
  | 0 => s
  | n + 1 => stepB add sub mul k u (bits n) (ladG bits s n)
def Sides.map {β : Type} (f : α → β) (s : Sides α) : Sides β := ⟨f s.x0, f s.z0, f s.x1, f s.z1⟩
theorem ladG_map {β : Type} {add' sub' mul' : β → β → β} (f : α → β) (G : α → Prop) (ga : ∀ x y, G x → G y → G (add x y) ∧ f (add x y) = add' (f x) (f y)) (gs : ∀ x y, G x → G y → G (sub x y) ∧ f (sub x y) = sub' (f x) (f y))
    (gm : ∀ x y, G x → G y → G (mul x y) ∧ f (mul x y) = mul' (f x) (f y)) (hk : G k) (hu : G u) (bits : Nat → Bool) (s : Sides α) (hs : G s.x0 ∧ G s.z0 ∧ G s.x1 ∧ G s.z1) (n : Nat) :
    (G (ladG add sub mul k u bits s n).x0 ∧ G (ladG add sub mul k u bits s n).z0 ∧ G (ladG add sub mul k u bits s n).x1 ∧ G (ladG add sub mul k u bits s n).z1) ∧ (ladG add sub mul k u bits s n).map f = ladG add' sub' mul' (f k) (f u) bits (s.map f) n := by
  have key : ∀ s : Sides α, G s.x0 → G s.z0 → G s.x1 → G s.z1 → (G (stepG add sub mul k u s).x0 ∧ G (stepG add sub mul k u s).z0 ∧ G (stepG add sub mul k u s).x1 ∧ G (stepG add sub mul k u s).z1) ∧ (stepG add sub mul k u s).map f = stepG add' sub' mul' (f k) (f u) (s.map f) := by
    intro s g0 g1 g2 g3
    have ⟨a1, a2⟩ := ga _ _ g0 g1
    have ⟨b1, b2⟩ := gs _ _ g0 g1
    have ⟨c1, c2⟩ := ga _ _ g2 g3
    have ⟨d1, d2⟩ := gs _ _ g2 g3
    have ⟨aa1, aa2⟩ := gm _ _ a1 a1
    have ⟨bb1, bb2⟩ := gm _ _ b1 b1
    have ⟨e1, e2⟩ := gs _ _ aa1 bb1
    have ⟨da1, da2⟩ := gm _ _ d1 a1
    have ⟨cb1, cb2⟩ := gm _ _ c1 b1
    have ⟨f1, f2⟩ := ga _ _ da1 cb1
    have ⟨g1', g2'⟩ := gs _ _ da1 cb1
    have ⟨p1, p2⟩ := gm _ _ aa1 bb1
    have ⟨q1, q2⟩ := gm _ _ hk e1
    have ⟨r1, r2⟩ := ga _ _ aa1 q1
    have ⟨t1, t2⟩ := gm _ _ e1 r1
    have ⟨v1, v2⟩ := gm _ _ f1 f1
    have ⟨w1, w2⟩ := gm _ _ g1' g1'
    have ⟨x1, x2⟩ := gm _ _ hu w1
    refine ⟨⟨p1, t1, v1, x1⟩, ?_⟩
    simp only [stepG, Sides.map, a2, b2, c2, d2, aa2, bb2, e2, da2, cb2, f2, g2', p2, q2, r2, t2, v2, w2, x2]
  induction n with
  | zero => exact ⟨hs, rfl⟩
  | succ n ih =>
    obtain ⟨⟨h0, h1, h2, h3⟩, ih⟩ := ih
    simp only [ladG, stepB]
    cases bits n with
    | false =>
      simp only [Bool.false_eq_true, if_false]
      rw [← ih]
      exact key _ h0 h1 h2 h3
    | true =>
      simp only [if_true]
      rw [← ih]
      have ⟨⟨k0, k1, k2, k3⟩, k4⟩ := key (ladG add sub mul k u bits s n).swap h2 h3 h0 h1
      refine ⟨⟨k2, k3, k0, k1⟩, ?_⟩
      have e : ∀ t : Sides α, t.swap.map f = (t.map f).swap := fun _ => rfl
      rw [e, k4, e]
end

theorem ladG_shift {α : Type} (add sub mul : α → α → α) (k u : α) (bits : Nat → Bool) (s : Sides α) (n : Nat) : ladG add sub mul k u bits s (n + 1) = ladG add sub mul k u (fun i => bits (i + 1)) (stepB add sub mul k u (bits 0) s) n := by
  induction n with
  | zero => rfl
  | succ n ih => rw [ladG, ih]; rfl

/-- The number that the first n bits write, the first the highest. -/
def bitsN (bits : Nat → Bool) : Nat → Nat
  | 0 => 0
  | n + 1 => 2 * bitsN bits n + (if bits n then 1 else 0)

section
variable {p : Nat} [NeZero p] {d : Fin p} (h : Good d)
/-- The place that a point's ladder gives: (1 + y) / (1 - y). -/
noncomputable def uF (P : Pt d) : Fin p := (1 + P.y) * iv (1 - P.y)

include h
theorem iv_mul {a b : Fin p} (ha : a ≠ 0) : iv (a * b) = iv a * iv b := by
  by_cases hb : b = 0
  · subst hb
    have e : a * 0 = 0 := by grind
    rw [e, iv_zero]; grind
  · have h1 := h.iv (h.ne_mul ha hb)
    have h2 := h.iv ha
    have h3 := h.iv hb
    refine h.cancel (h.ne_mul ha hb) ?_
    rw [h1]
    have : a * b * (iv a * iv b) = (a * iv a) * (b * iv b) := by grind
    rw [this, h2, h3]; grind
theorem rep_out {X Z : Fin p} {P : Pt d} (r : Rep X Z P) : X * iv Z = uF P := by
  obtain ⟨l, l0, rfl, rfl⟩ := r
  rw [iv_mul h l0, uF]
  have e := h.iv l0
  have : l * (1 + P.y) * (iv l * iv (1 - P.y)) = (l * iv l) * ((1 + P.y) * iv (1 - P.y)) := by grind
  rw [this, e]; grind
theorem uF_ne {P : Pt d} (hu : uF P ≠ 0) : 1 - P.y ≠ 0 ∧ 1 + P.y ≠ 0 ∧ uF P * (1 - P.y) = 1 + P.y := by
  have h1 : 1 - P.y ≠ 0 := fun e => hu (by rw [uF, e, iv_zero]; grind)
  have h2 : 1 + P.y ≠ 0 := fun e => hu (by rw [uF, e]; grind)
  have e := h.iv h1
  refine ⟨h1, h2, ?_⟩
  rw [uF]
  have : (1 + P.y) * iv (1 - P.y) * (1 - P.y) = (1 + P.y) * ((1 - P.y) * iv (1 - P.y)) := by grind
  rw [this, e]; grind
theorem uF_zero {P : Pt d} (hu : uF P = 0) : P.add h P = Pt.zero d := by
  apply Pt.twice h
  by_cases h1 : 1 - P.y = 0
  · grind
  · have e : 1 + P.y = 0 := by
      rw [uF] at hu
      have e1 := h.iv_ne h1
      exact h.mul0 e1 (by rw [← hu]; grind)
    grind

abbrev fadd (a b : Fin p) : Fin p := a + b
abbrev fsub (a b : Fin p) : Fin p := a - b
abbrev fmul (a b : Fin p) : Fin p := a * b

/-- The ladder over a point: both sides stand for neighbouring multiples. -/
theorem lad_rep {k : Fin p} (hk : (k + 1) * d = k) (hk0 : k + 1 ≠ 0) {P : Pt d} {u : Fin p} (hm : 1 - P.y ≠ 0) (hp : 1 + P.y ≠ 0) (hu : u * (1 - P.y) = 1 + P.y) (bits : Nat → Bool) (n : Nat) :
    Rep (ladG fadd fsub fmul k u bits ⟨1, 0, u, 1⟩ n).x0 (ladG fadd fsub fmul k u bits ⟨1, 0, u, 1⟩ n).z0 (P.mul h (bitsN bits n)) ∧
    Rep (ladG fadd fsub fmul k u bits ⟨1, 0, u, 1⟩ n).x1 (ladG fadd fsub fmul k u bits ⟨1, 0, u, 1⟩ n).z1 (P.mul h (bitsN bits n + 1)) := by
  have step : ∀ (s : Sides (Fin p)) (A B : Pt d), Rep s.x0 s.z0 A → Rep s.x1 s.z1 B → (B.add h A.neg).y = P.y → Rep (stepG fadd fsub fmul k u s).x0 (stepG fadd fsub fmul k u s).z0 (A.add h A) ∧ Rep (stepG fadd fsub fmul k u s).x1 (stepG fadd fsub fmul k u s).z1 (A.add h B) := by
    intro s A B rA rB hy
    have r1 := rep_dbl h hk hk0 rA
    have r2 := rep_dadd h rA rB hy.symm hm hp hu
    have sq : ∀ x : Fin p, x ^ 2 = x * x := fun x => by grind
    simp only [sq] at r1 r2
    exact ⟨r1, r2⟩
  have sub1 : ∀ m, (P.mul h (m + 1)).add h (P.mul h m).neg = P := by
    intro m
    rw [show m + 1 = 1 + m by omega, Pt.mul_add, Pt.add_assoc, Pt.add_neg, Pt.add_zero, Pt.mul_one]
  have sub2 : ∀ m, ((P.mul h m).add h (P.mul h (m + 1)).neg).y = P.y := by
    intro m
    have e1 : (P.mul h m).add h (P.mul h (m + 1)).neg = P.neg := by
      have e0 : ∀ A B C : Pt d, A.add h B.neg = C → B.add h A.neg = C.neg := by
        intro A B C e
        have e2 : A = C.add h B := by rw [← e, Pt.add_assoc, Pt.add_comm h B.neg B, Pt.add_neg, Pt.add_zero]
        have e3 : ∀ U V : Pt d, U.add h V = Pt.zero d → V = U.neg := by
          intro U V e
          have : U.neg.add h (U.add h V) = U.neg := by rw [e, Pt.add_zero]
          rw [← Pt.add_assoc, Pt.add_comm h U.neg U, Pt.add_neg, Pt.zero_add] at this
          exact this
        apply e3
        rw [← Pt.add_assoc, Pt.add_comm h C B, Pt.add_comm h B C, ← e2, Pt.add_neg]
      exact e0 _ _ _ (sub1 m)
    rw [e1]; rfl
  induction n with
  | zero =>
    refine ⟨rep_zero h, ?_⟩
    simp only [ladG, bitsN, Nat.zero_add]
    rw [Pt.mul_one]
    exact rep_base h hm hu
  | succ n ih =>
    obtain ⟨i0, i1⟩ := ih
    simp only [ladG, stepB, bitsN]
    cases bits n with
    | false =>
      simp only [Bool.false_eq_true, if_false, Nat.add_zero]
      have ⟨s0, s1⟩ := step _ _ _ i0 i1 (by rw [sub1])
      rw [← Pt.mul_add] at s0 s1
      rw [show 2 * bitsN bits n = bitsN bits n + bitsN bits n by omega]
      exact ⟨s0, by rw [Nat.add_assoc]; exact s1⟩
    | true =>
      simp only [if_true]
      have ⟨s0, s1⟩ := step (ladG fadd fsub fmul k u bits ⟨1, 0, u, 1⟩ n).swap _ _ i1 i0 (sub2 _)
      rw [← Pt.mul_add] at s0 s1
      rw [show 2 * bitsN bits n + 1 = bitsN bits n + 1 + bitsN bits n by omega]
      exact ⟨s1, by rw [show bitsN bits n + 1 + bitsN bits n + 1 = bitsN bits n + 1 + (bitsN bits n + 1) by omega]; exact s0⟩
theorem lad_out {k : Fin p} (hk : (k + 1) * d = k) (hk0 : k + 1 ≠ 0) {P : Pt d} (hu : uF P ≠ 0) (bits : Nat → Bool) (n : Nat) :
    (ladG fadd fsub fmul k (uF P) bits ⟨1, 0, uF P, 1⟩ n).x0 * iv (ladG fadd fsub fmul k (uF P) bits ⟨1, 0, uF P, 1⟩ n).z0 = uF (P.mul h (bitsN bits n)) := by
  have ⟨h1, h2, h3⟩ := uF_ne h hu
  exact rep_out h (lad_rep h hk hk0 h1 h2 h3 bits n).1

/-! ### Scaled sides: a step keeps the fractions -/
structure Scaled (s t : Sides (Fin p)) : Prop where
  zero : ∃ l, l ≠ 0 ∧ t.x0 = l * s.x0 ∧ t.z0 = l * s.z0
  one : ∃ l, l ≠ 0 ∧ t.x1 = l * s.x1 ∧ t.z1 = l * s.z1
omit h in
theorem Scaled.swap {s t : Sides (Fin p)} (g : Scaled s t) : Scaled s.swap t.swap := ⟨g.one, g.zero⟩
theorem Scaled.step {s t : Sides (Fin p)} {k u : Fin p} (g : Scaled s t) : Scaled (stepG fadd fsub fmul k u s) (stepG fadd fsub fmul k u t) := by
  obtain ⟨l, l0, e1, e2⟩ := g.zero
  obtain ⟨m, m0, e3, e4⟩ := g.one
  refine ⟨⟨l * l * (l * l), h.ne_mul (h.ne_mul l0 l0) (h.ne_mul l0 l0), ?_, ?_⟩, ⟨l * m * (l * m), h.ne_mul (h.ne_mul l0 m0) (h.ne_mul l0 m0), ?_, ?_⟩⟩
  · simp only [stepG, e1, e2, fadd, fsub, fmul]; grind
  · simp only [stepG, e1, e2, fadd, fsub, fmul]; grind
  · simp only [stepG, e1, e2, e3, e4, fadd, fsub, fmul]; grind
  · simp only [stepG, e1, e2, e3, e4, fadd, fsub, fmul]; grind
theorem Scaled.lad {s t : Sides (Fin p)} {k u : Fin p} (g : Scaled s t) (bits : Nat → Bool) (n : Nat) : Scaled (ladG fadd fsub fmul k u bits s n) (ladG fadd fsub fmul k u bits t n) := by
  induction n with
  | zero => exact g
  | succ n ih =>
    simp only [ladG, stepB]
    cases bits n with
    | false => exact ih.step h
    | true => exact (ih.swap.step h).swap
theorem Scaled.out {s t : Sides (Fin p)} (g : Scaled s t) : t.x0 * iv t.z0 = s.x0 * iv s.z0 := by
  obtain ⟨l, l0, e1, e2⟩ := g.zero
  rw [e1, e2, iv_mul h l0]
  have := h.iv l0
  have e : l * s.x0 * (iv l * iv s.z0) = (l * iv l) * (s.x0 * iv s.z0) := by grind
  rw [e, this]; grind
/-- One more bit ahead, a 0, then a 1: the same comes out. -/
theorem lad_more (k u : Fin p) (bits : Nat → Bool) (h0 : bits 0 = false) (h1 : bits 1 = true) (n : Nat) :
    (ladG fadd fsub fmul k u bits ⟨1, 0, u, 1⟩ (n + 2)).x0 * iv (ladG fadd fsub fmul k u bits ⟨1, 0, u, 1⟩ (n + 2)).z0 =
    (ladG fadd fsub fmul k u (fun i => bits (i + 1)) ⟨1, 0, u, 1⟩ (n + 1)).x0 * iv (ladG fadd fsub fmul k u (fun i => bits (i + 1)) ⟨1, 0, u, 1⟩ (n + 1)).z0 := by
  rw [ladG_shift]
  by_cases hu : u = 0
  · subst hu
    rw [ladG_shift, ladG_shift]
    -- the one side is 0 : 0 from here on
    have key : ∀ (bits : Nat → Bool) (s : Sides (Fin p)) (n : Nat), s.x0 = 0 → s.z0 = 0 → (ladG fadd fsub fmul k 0 bits s n).x0 = 0 ∧ (ladG fadd fsub fmul k 0 bits s n).z0 = 0 := by
      intro bits s n e1 e2
      induction n with
      | zero => exact ⟨e1, e2⟩
      | succ n ih =>
        obtain ⟨i1, i2⟩ := ih
        simp only [ladG, stepB]
        cases bits n with
        | false =>
          simp only [Bool.false_eq_true, if_false, stepG, i1, i2, fadd, fsub, fmul]
          constructor <;> grind
        | true =>
          simp only [if_true, stepG, Sides.swap, i1, i2, fadd, fsub, fmul]
          constructor <;> grind
    have a := key (fun i => bits (i + 1 + 1)) (stepB fadd fsub fmul k 0 (bits (0 + 1)) (stepB fadd fsub fmul k 0 (bits 0) ⟨1, 0, 0, 1⟩)) n (by
      rw [Nat.zero_add, h0, h1]; simp only [stepB, if_true, Bool.false_eq_true, if_false, stepG, Sides.swap, fadd, fsub, fmul]; grind) (by
      rw [Nat.zero_add, h0, h1]; simp only [stepB, if_true, Bool.false_eq_true, if_false, stepG, Sides.swap, fadd, fsub, fmul]; grind)
    have b := key (fun i => bits (i + 1 + 1)) (stepB fadd fsub fmul k 0 (bits (0 + 1)) ⟨1, 0, 0, 1⟩) n (by
      rw [Nat.zero_add, h1]; simp only [stepB, if_true, stepG, Sides.swap, fadd, fsub, fmul]; grind) (by
      rw [Nat.zero_add, h1]; simp only [stepB, if_true, stepG, Sides.swap, fadd, fsub, fmul]; grind)
    rw [a.1, a.2, b.1, b.2]
  · refine Scaled.out h (Scaled.lad h ?_ _ _)
    rw [h0]
    simp only [stepB, Bool.false_eq_true, if_false]
    have two := h.two
    refine ⟨⟨1, h.one, ?_, ?_⟩, ⟨2 * 2 * u, h.ne_mul (h.ne_mul two two) hu, ?_, ?_⟩⟩ <;> (simp only [stepG, fadd, fsub, fmul]; grind)
end
end Go.Proofs.Ytmbbdblmengdhaa
