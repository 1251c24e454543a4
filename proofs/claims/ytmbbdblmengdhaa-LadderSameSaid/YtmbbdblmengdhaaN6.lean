/- Plain: what comes of secret keys: two agree, three agree. -/
import Derived.Test.YtmbbdblmengdhaaN5
set_option linter.unusedSimpArgs false
set_option linter.unusedVariables false
namespace Go.Proofs.Ytmbbdblmengdhaa

theorem sub_self' {p : Nat} [NeZero p] (x : Fin p) : x - x = 0 := by grind
theorem order : baseP.mul good lL = Pt.zero dF := by
  have ⟨h1, h2, h3⟩ := uF_ne good base_u0
  have hm := (ladN_map (u := 9) (by decide +kernel) (bitsOf lL 253) 253).2
  have r := (lad_rep good kF1 kF2 h1 h2 h3 (bitsOf lL 253) 253).1
  rw [base_u, ← hm, bitsN_of lL 253 (by decide +kernel)] at r
  obtain ⟨l, l0, _, e⟩ := r
  have e0 : ((ladN 9 (bitsOf lL 253) 253).map toF).z0 = 0 := by
    show toF (ladN 9 (bitsOf lL 253) 253).z0 = 0
    rw [lad_l, toF_zero]
  rw [e0] at e
  have hy : 1 - (baseP.mul good lL).y = 0 := good.mul0 l0 e.symm
  exact Pt.zero_of_y good _ (by
    generalize (baseP.mul good lL).y = y at hy
    grind)
theorem base_ne : baseP ≠ Pt.zero dF := fun e => by
  have h1 := (uF_ne good base_u0).1
  rw [e] at h1
  exact h1 (sub_self' 1)
theorem uF_base_ne {m : Nat} (hm : ¬ lL ∣ m) : uF (baseP.mul good m) ≠ 0 := by
  intro e
  have h := uF_zero good e
  rw [← Pt.mul_add] at h
  have hd : ¬ lL ∣ m + m := by
    intro hd
    have e2 : m + m = 2 * m := by omega
    rw [e2] at hd
    rcases prime_lL.dvd_mul hd with h2 | h2
    · exact absurd (Nat.le_of_dvd (by decide) h2) (by decide +kernel)
    · exact hm h2
  have hg := prime_lL.coprime hd
  have := Pt.mul_gcd good baseP lL (m + m) order h
  rw [hg, Pt.mul_one] at this
  exact base_ne this

/-- A multiple of the base point's place. -/
noncomputable def place (m : Nat) : Nat := (uF (baseP.mul good m)).val
theorem place_lt (m : Nat) : place m < pP := (uF (baseP.mul good m)).isLt
theorem place_ne {m : Nat} (hm : ¬ lL ∣ m) : place m ≠ 0 := fun e => uF_base_ne hm (Fin.ext e)
/-- What comes of a secret number c and a place: 256 bits. -/
def comeN (c u : Nat) : Nat := outN u (bitsOf c 256) 256
theorem comeN_lt (c u : Nat) : comeN c u < pP := outN_lt _ _ _
theorem toF_place (m : Nat) : toF (place m) = uF (baseP.mul good m) := by
  unfold place
  rw [toF_val]
theorem place_one : place 1 = 9 := by
  refine toF_inj (place_lt 1) (by decide +kernel) ?_
  rw [toF_place, Pt.mul_one, base_u]
theorem come_place_w {c m w : Nat} (hc : c < 2 ^ w) (hm : ¬ lL ∣ m) : outN (place m) (bitsOf c w) w = place (m * c) := by
  have hl := place_lt m
  have hn := place_ne hm
  have hp := toF_place m
  have hp2 := toF_place (m * c)
  have hl2 := place_lt (m * c)
  generalize place m = u at *
  generalize place (m * c) = v at *
  have h := outN_mul hl hp hn (bitsOf c w) w
  rw [bitsN_of c w hc, Pt.mul_mul, ← hp2] at h
  exact toF_inj (outN_lt _ _ _) hl2 h
theorem come_place {c m : Nat} (hc : c < 2 ^ 256) (hm : ¬ lL ∣ m) : comeN c (place m) = place (m * c) := come_place_w hc hm

/-- Secret keys' numbers, clamped. -/
structure IsSec (c : Nat) : Prop where
  lt : c < 2 ^ 255
  ge : 2 ^ 254 ≤ c
  eight : c % 8 = 0
theorem IsSec.ndvd {c : Nat} (h : IsSec c) : ¬ lL ∣ c := by
  intro hd
  have h1 := h.lt
  have h2 := h.ge
  have h3 := h.eight
  have e : c = 8 * (c / 8) := by omega
  rw [e] at hd
  rcases prime_lL.dvd_mul hd with h8 | h8
  · exact absurd (Nat.le_of_dvd (by decide) h8) (by decide +kernel)
  · have p255 : (2 : Nat) ^ 255 = 57896044618658097711785492504343953926634992332820282019728792003956564819968 := by decide +kernel
    have p254 : (2 : Nat) ^ 254 = 28948022309329048855892746252171976963317496166410141009864396001978282409984 := by decide +kernel
    have := Nat.le_of_dvd (by omega) h8
    rw [lL] at this
    omega
theorem ndvd_mul {a b : Nat} (ha : ¬ lL ∣ a) (hb : ¬ lL ∣ b) : ¬ lL ∣ a * b := fun h => by
  rcases prime_lL.dvd_mul h with h | h
  · exact ha h
  · exact hb h
theorem IsSec.lt256 {c : Nat} (h : IsSec c) : c < 2 ^ 256 := Nat.lt_trans h.lt (by decide +kernel)
theorem one_ndvd : ¬ lL ∣ 1 := fun h => absurd (Nat.le_of_dvd (by decide) h) (by decide +kernel)
theorem come_nine {c : Nat} (h : IsSec c) : comeN c 9 = place c := by
  rw [← place_one, come_place h.lt256 one_ndvd, Nat.one_mul]

theorem both {a b : Nat} (ha : IsSec a) (hb : IsSec b) : comeN a (comeN b 9) = comeN b (comeN a 9) ∧ comeN a (comeN b 9) ≠ 0 := by
  rw [come_nine ha, come_nine hb, come_place ha.lt256 hb.ndvd, come_place hb.lt256 ha.ndvd, Nat.mul_comm b a]
  exact ⟨rfl, place_ne (ndvd_mul ha.ndvd hb.ndvd)⟩
theorem three {a b c : Nat} (ha : IsSec a) (hb : IsSec b) (hc : IsSec c) : comeN b (comeN a (comeN c 9)) = comeN a (comeN b (comeN c 9)) ∧ comeN b (comeN a (comeN c 9)) ≠ 0 ∧ comeN a (comeN c 9) ≠ 0 ∧ comeN b (comeN c 9) ≠ 0 := by
  have ca := ndvd_mul hc.ndvd ha.ndvd
  have cb := ndvd_mul hc.ndvd hb.ndvd
  rw [come_nine hc, come_place ha.lt256 hc.ndvd, come_place hb.lt256 hc.ndvd, come_place hb.lt256 ca, come_place ha.lt256 cb]
  refine ⟨?_, place_ne (ndvd_mul ca hb.ndvd), place_ne ca, place_ne cb⟩
  rw [Nat.mul_assoc, Nat.mul_assoc, Nat.mul_comm a b]

/-- The reference's 255 bits give the same. -/
theorem come_255 {c u : Nat} (hc : IsSec c) (hu : u < pP) : outN u (bitsOf c 255) 255 = comeN c u := by
  have h0 : bitsOf c 256 0 = false := by
    unfold bitsOf
    rw [Nat.testBit_lt_two_pow]
    exact hc.lt
  have h1 : bitsOf c 256 1 = true := by
    unfold bitsOf
    show c.testBit 254 = true
    rw [Nat.testBit_eq_decide_div_mod_eq]
    have h1 := hc.lt
    have h2 := hc.ge
    have : c / 2 ^ 254 = 1 := by
      rw [Nat.div_eq_iff (by decide)]
      have p255 : (2 : Nat) ^ 255 = 2 ^ 254 * 2 := Nat.pow_succ 2 254
      omega
    rw [this]; decide
  have h := lad_more good (toF kN) (toF u) (bitsOf c 256) h0 h1 254
  have e : (fun i => bitsOf c 256 (i + 1)) = bitsOf c 255 := by
    funext i
    unfold bitsOf
    rw [show 256 - 1 - (i + 1) = 255 - 1 - i by omega]
  rw [e] at h
  have g1 := outN_F hu (bitsOf c 256) 256
  have g2 := outN_F hu (bitsOf c 255) 255
  refine toF_inj (outN_lt _ _ _) (outN_lt _ _ _) ?_
  rw [g2, comeN, g1]
  exact h.symm
end Go.Proofs.Ytmbbdblmengdhaa
