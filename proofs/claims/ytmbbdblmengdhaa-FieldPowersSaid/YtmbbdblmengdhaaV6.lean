/- Plain: the program's numbers, by value: carry, From, Small, Add, Sub. -/
import Derived.Test.YtmbbdblmengdhaaA2
import Derived.Test.YtmbbdblmengdhaaA6
import Derived.Test.YtmbbdblmengdhaaA7
import Derived.Test.YtmbbdblmengdhaaV0
import Derived.Test.YtmbbdblmengdhaaN0
set_option linter.unusedSimpArgs false
set_option linter.unusedVariables false
namespace Go.Proofs.Ytmbbdblmengdhaa
open Go.RowKit

/-- Five words below 2^51 that stand for x modulo p. -/
structure Lim (l : List Nat) (x : Nat) : Prop where
  len : l.length = 5
  lt : ∀ i, l.getD i 0 < 2251799813685248
  val : valN 2251799813685248 l % pP = x
theorem Lim.x_lt {l : List Nat} {x : Nat} (h : Lim l x) : x < pP := by
  rw [← h.val]; exact Nat.mod_lt _ (by decide)
theorem Lim.lt64 {l : List Nat} {x : Nat} (h : Lim l x) : ∀ i, l.getD i 0 < 18446744073709551616 := fun i => by have := h.lt i; omega
theorem Lim.bd {l : List Nat} {x : Nat} (h : Lim l x) : ∀ i, l.getD i 0 ≤ 9007199254740916 := fun i => by have := h.lt i; omega
theorem lim5 {a b c d e x : Nat} (ha : a < 2251799813685248) (hb : b < 2251799813685248) (hc : c < 2251799813685248) (hd : d < 2251799813685248) (he : e < 2251799813685248) (hv : (a + 2251799813685248 * (b + 2251799813685248 * (c + 2251799813685248 * (d + 2251799813685248 * e)))) % pP = x) : Lim [a, b, c, d, e] x := by
  refine ⟨rfl, fun i => ?_, ?_⟩
  · match i with
    | 0 => exact ha
    | 1 => exact hb
    | 2 => exact hc
    | 3 => exact hd
    | 4 => exact he
    | n + 5 => show 0 < 2251799813685248; omega
  · rw [← hv]; simp [valN]
theorem Lim.five {l : List Nat} {x : Nat} (h : Lim l x) : ∃ a b c d e, l = [a, b, c, d, e] ∧ a < 2251799813685248 ∧ b < 2251799813685248 ∧ c < 2251799813685248 ∧ d < 2251799813685248 ∧ e < 2251799813685248 ∧ (a + 2251799813685248 * (b + 2251799813685248 * (c + 2251799813685248 * (d + 2251799813685248 * e)))) % pP = x := by
  obtain ⟨a, b, c, d, e, rfl⟩ := len5 h.len
  refine ⟨a, b, c, d, e, rfl, h.lt 0, h.lt 1, h.lt 2, h.lt 3, h.lt 4, ?_⟩
  have := h.val
  simpa [valN] using this

/-- Where nothing overflows. -/
def passE (a b c d e : Nat) : List Nat :=
  let c1 := a / 2251799813685248
  let c2 := (b + c1) / 2251799813685248
  let c3 := (c + c2) / 2251799813685248
  let c4 := (d + c3) / 2251799813685248
  let c5 := (e + c4) / 2251799813685248
  [a % 2251799813685248 + 19 * c5, (b + c1) % 2251799813685248, (c + c2) % 2251799813685248, (d + c3) % 2251799813685248, (e + c4) % 2251799813685248]
theorem pass_eq {a b c d e : Nat} (ha : a < 9223372036854775808) (hb : b < 9223372036854775808) (hc : c < 9223372036854775808) (hd : d < 9223372036854775808) (he : e < 9223372036854775808) : pass [a, b, c, d, e] = passE a b c d e := by
  have p51 : (2 : Nat) ^ 51 = 2251799813685248 := rfl
  have h : ∀ x y : Nat, x < 9223372036854775808 → y ≤ 8192 → (x + y) % 18446744073709551616 = x + y := fun x y _ _ => by omega
  simp only [pass, cRun, cStep, passE, List.getD_cons_zero, List.getD_cons_succ, List.set_cons_zero, List.set_cons_succ, p51, Nat.add_zero]
  rw [Nat.mod_eq_of_lt (show a < 18446744073709551616 by omega)]
  generalize h1 : a / 2251799813685248 = c1
  rw [h b c1 hb (by omega)]
  generalize h2 : (b + c1) / 2251799813685248 = c2
  rw [h c c2 hc (by omega)]
  generalize h3 : (c + c2) / 2251799813685248 = c3
  rw [h d c3 hd (by omega)]
  generalize h4 : (d + c3) / 2251799813685248 = c4
  rw [h e c4 he (by omega)]
  generalize h5 : (e + c4) / 2251799813685248 = c5
  have : 19 * c5 % 18446744073709551616 = 19 * c5 := by omega
  rw [this]
  have : (a % 2251799813685248 + 19 * c5) % 18446744073709551616 = a % 2251799813685248 + 19 * c5 := by omega
  rw [this]
theorem modp_add (x q : Nat) : (x + pP * q) % pP = x % pP := Nat.add_mul_mod_self_left _ _ _
theorem carry_lim {l : List Nat} (hl : l.length = 5) (h : ∀ i, l.getD i 0 < 9223372036854775808) : Lim (carryL l) (valN 2251799813685248 l % pP) := by
  obtain ⟨a, b, c, d, e, rfl⟩ := len5 hl
  have ha : a < 9223372036854775808 := h 0
  have hb : b < 9223372036854775808 := h 1
  have hc : c < 9223372036854775808 := h 2
  have hd : d < 9223372036854775808 := h 3
  have he : e < 9223372036854775808 := h 4
  unfold carryL
  rw [pass_eq ha hb hc hd he]
  have hv : valN 2251799813685248 [a, b, c, d, e] = a + 2251799813685248 * (b + 2251799813685248 * (c + 2251799813685248 * (d + 2251799813685248 * e))) := by simp [valN]
  rw [hv]
  clear hv h hl
  unfold passE
  dsimp only
  generalize h1 : a / 2251799813685248 = c1
  generalize h1' : a % 2251799813685248 = r1
  generalize h2 : (b + c1) / 2251799813685248 = c2
  generalize h2' : (b + c1) % 2251799813685248 = r2
  generalize h3 : (c + c2) / 2251799813685248 = c3
  generalize h3' : (c + c2) % 2251799813685248 = r3
  generalize h4 : (d + c3) / 2251799813685248 = c4
  generalize h4' : (d + c3) % 2251799813685248 = r4
  generalize h5 : (e + c4) / 2251799813685248 = c5
  generalize h5' : (e + c4) % 2251799813685248 = r5
  have hc5 : c5 ≤ 8192 := by omega
  have b1 : r1 < 2251799813685248 := by omega
  have b2 : r2 < 2251799813685248 := by omega
  have b3 : r3 < 2251799813685248 := by omega
  have b4 : r4 < 2251799813685248 := by omega
  have b5 : r5 < 2251799813685248 := by omega
  have hv : a + 2251799813685248 * (b + 2251799813685248 * (c + 2251799813685248 * (d + 2251799813685248 * e))) = r1 + 19 * c5 + 2251799813685248 * (r2 + 2251799813685248 * (r3 + 2251799813685248 * (r4 + 2251799813685248 * r5))) + pP * c5 := by
    rw [pP]; omega
  rw [hv, modp_add]
  clear hv h1 h2 h3 h4 h5 h1' h2' h3' h4' h5' ha hb hc hd he c1 c2 c3 c4
  rw [pass_eq (by omega) (by omega) (by omega) (by omega) (by omega)]
  unfold passE
  dsimp only
  generalize hs : r1 + 19 * c5 = s at *
  have bs : s < 2251799813840896 := by omega
  generalize h1 : s / 2251799813685248 = c1
  generalize h1' : s % 2251799813685248 = s1
  generalize h2 : (r2 + c1) / 2251799813685248 = c2
  generalize h2' : (r2 + c1) % 2251799813685248 = s2
  generalize h3 : (r3 + c2) / 2251799813685248 = c3
  generalize h3' : (r3 + c2) % 2251799813685248 = s3
  generalize h4 : (r4 + c3) / 2251799813685248 = c4
  generalize h4' : (r4 + c3) % 2251799813685248 = s4
  generalize h5 : (r5 + c4) / 2251799813685248 = c6
  generalize h5' : (r5 + c4) % 2251799813685248 = s5
  refine lim5 (by omega) (by omega) (by omega) (by omega) (by omega) ?_
  have hv : s + 2251799813685248 * (r2 + 2251799813685248 * (r3 + 2251799813685248 * (r4 + 2251799813685248 * r5))) = s1 + 19 * c6 + 2251799813685248 * (s2 + 2251799813685248 * (s3 + 2251799813685248 * (s4 + 2251799813685248 * s5))) + pP * c6 := by
    rw [pP]; omega
  rw [hv, modp_add]

theorem num_lim {m : Nat} (hm : m < 9223372036854775808) : Lim (numL m) (m % pP) := by
  have p51 : (2 : Nat) ^ 51 = 2251799813685248 := rfl
  unfold numL
  rw [p51]
  refine lim5 (by omega) (by omega) (by decide) (by decide) (by decide) ?_
  have : m % 2251799813685248 + 2251799813685248 * (m / 2251799813685248 + 2251799813685248 * (0 + 2251799813685248 * (0 + 2251799813685248 * 0))) = m := by omega
  rw [this]
theorem zero_lim : Lim [0, 0, 0, 0, 0] 0 := lim5 (by decide) (by decide) (by decide) (by decide) (by decide) (by decide +kernel)
theorem one_lim : Lim [1, 0, 0, 0, 0] 1 := lim5 (by decide) (by decide) (by decide) (by decide) (by decide) (by decide +kernel)

theorem add_lim {l m : List Nat} {x y : Nat} (hl : Lim l x) (hm : Lim m y) : Lim (addL l m) ((x + y) % pP) := by
  obtain ⟨a, b, c, d, e, rfl, ha, hb, hc, hd, he, hx⟩ := hl.five
  obtain ⟨a', b', c', d', e', rfl, ha', hb', hc', hd', he', hy⟩ := hm.five
  have e1 : addR [a, b, c, d, e] [a', b', c', d', e'] 5 = [a + a', b + b', c + c', d + d', e + e'] := by
    simp only [addR, List.getD_cons_zero, List.getD_cons_succ, List.set_cons_zero, List.set_cons_succ]
    have h : ∀ x y : Nat, x < 2251799813685248 → y < 2251799813685248 → (x + y) % 18446744073709551616 = x + y := fun x y _ _ => by omega
    rw [h _ _ ha ha', h _ _ hb hb', h _ _ hc hc', h _ _ hd hd', h _ _ he he']
  unfold addL
  rw [e1]
  have := carry_lim (l := [a + a', b + b', c + c', d + d', e + e']) rfl (fun i => by
    match i with
    | 0 => show a + a' < _; omega
    | 1 => show b + b' < _; omega
    | 2 => show c + c' < _; omega
    | 3 => show d + d' < _; omega
    | 4 => show e + e' < _; omega
    | n + 5 => show 0 < 9223372036854775808; omega)
  have hv : valN 2251799813685248 [a + a', b + b', c + c', d + d', e + e'] = (a + 2251799813685248 * (b + 2251799813685248 * (c + 2251799813685248 * (d + 2251799813685248 * e)))) + (a' + 2251799813685248 * (b' + 2251799813685248 * (c' + 2251799813685248 * (d' + 2251799813685248 * e')))) := by
    simp only [valN]; omega
  rw [hv, Nat.add_mod, hx, hy] at this
  exact this

theorem sub_lim {l m : List Nat} {x y : Nat} (hl : Lim l x) (hm : Lim m y) : Lim (subL l m) ((x + (pP - y)) % pP) := by
  have hyp := hm.x_lt
  obtain ⟨a, b, c, d, e, rfl, ha, hb, hc, hd, he, hx⟩ := hl.five
  obtain ⟨a', b', c', d', e', rfl, ha', hb', hc', hd', he', hy⟩ := hm.five
  have e1 : subR [a, b, c, d, e] [a', b', c', d', e'] 5 = [a + (9007199254740916 - a'), b + (9007199254740988 - b'), c + (9007199254740988 - c'), d + (9007199254740988 - d'), e + (9007199254740988 - e')] := by
    simp only [subR, subP, List.getD_cons_zero, List.getD_cons_succ, List.set_cons_zero, List.set_cons_succ]
    have h : ∀ x y z : Nat, x < 2251799813685248 → z ≤ 9007199254740988 → (x + (z - y)) % 18446744073709551616 = x + (z - y) := fun x y z _ _ => by omega
    simp only [if_true, show (1 : Nat) ≠ 0 by decide, show (2 : Nat) ≠ 0 by decide, show (3 : Nat) ≠ 0 by decide, show (4 : Nat) ≠ 0 by decide, if_false]
    rw [h _ _ _ ha (by omega), h _ _ _ hb (by omega), h _ _ _ hc (by omega), h _ _ _ hd (by omega), h _ _ _ he (by omega)]
  unfold subL
  rw [e1]
  have := carry_lim (l := [a + (9007199254740916 - a'), b + (9007199254740988 - b'), c + (9007199254740988 - c'), d + (9007199254740988 - d'), e + (9007199254740988 - e')]) rfl (fun i => by
    match i with
    | 0 => show a + (9007199254740916 - a') < _; omega
    | 1 => show b + (9007199254740988 - b') < _; omega
    | 2 => show c + (9007199254740988 - c') < _; omega
    | 3 => show d + (9007199254740988 - d') < _; omega
    | 4 => show e + (9007199254740988 - e') < _; omega
    | n + 5 => show 0 < 9223372036854775808; omega)
  have hv : valN 2251799813685248 [a + (9007199254740916 - a'), b + (9007199254740988 - b'), c + (9007199254740988 - c'), d + (9007199254740988 - d'), e + (9007199254740988 - e')] + (a' + 2251799813685248 * (b' + 2251799813685248 * (c' + 2251799813685248 * (d' + 2251799813685248 * e')))) = (a + 2251799813685248 * (b + 2251799813685248 * (c + 2251799813685248 * (d + 2251799813685248 * e)))) + pP * 4 := by
    simp only [valN, pP]; omega
  generalize valN 2251799813685248 [a + (9007199254740916 - a'), b + (9007199254740988 - b'), c + (9007199254740988 - c'), d + (9007199254740988 - d'), e + (9007199254740988 - e')] = S at *
  generalize (a + 2251799813685248 * (b + 2251799813685248 * (c + 2251799813685248 * (d + 2251799813685248 * e)))) = X at *
  generalize (a' + 2251799813685248 * (b' + 2251799813685248 * (c' + 2251799813685248 * (d' + 2251799813685248 * e')))) = Y at *
  have h2 : (x + (pP - y)) % pP = S % pP := by
    have hY := Nat.div_add_mod Y pP
    have hX := Nat.div_add_mod X pP
    rw [hy] at hY
    rw [hx] at hX
    have : x + (pP - y) + pP * (X / pP + 4) = S + pP * (Y / pP + 1) := by
      rw [Nat.mul_add, Nat.mul_add]
      generalize pP * (X / pP) = u at *
      generalize pP * (Y / pP) = v at *
      rw [pP] at *; omega
    rw [← modp_add (x + (pP - y)) (X / pP + 4), this, modp_add]
  rw [h2]; exact this
end Go.Proofs.Ytmbbdblmengdhaa
