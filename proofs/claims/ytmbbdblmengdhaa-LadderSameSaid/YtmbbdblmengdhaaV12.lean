/- Plain: the rules of a ring, on numbers modulo p. -/
import Derived.Test.YtmbbdblmengdhaaN5
set_option linter.unusedSimpArgs false
set_option linter.unusedVariables false
namespace Go.Proofs.Ytmbbdblmengdhaa

section
variable {p : Nat} [NeZero p] (x y z : Fin p)
theorem gr_addc : x + y = y + x := by grind
theorem gr_adda : x + y + z = x + (y + z) := by grind
theorem gr_subadd : x - y + y = x := by grind
theorem gr_mulc : x * y = y * x := by grind
theorem gr_mula : x * y * z = x * (y * z) := by grind
theorem gr_dist : (x + y) * z = x * z + y * z := by grind
theorem gr_one : x * 1 = x := by grind
theorem gr_zero : x * 0 = 0 := by grind
theorem gr_subself : x - x = 0 := by grind
theorem gr_addneg : x + (0 - x) = 0 := by grind
end
theorem addN_comm (x y : Nat) : addN x y = addN y x := by unfold addN; rw [Nat.add_comm]
theorem mulN_comm (x y : Nat) : mulN x y = mulN y x := by unfold mulN; rw [Nat.mul_comm]
theorem addN_assoc (x y z : Nat) : addN (addN x y) z = addN x (addN y z) :=
  toF_inj (addN_lt _ _) (addN_lt _ _) (by rw [toF_addN, toF_addN, toF_addN, toF_addN, gr_adda])
theorem mulN_assoc (x y z : Nat) : mulN (mulN x y) z = mulN x (mulN y z) :=
  toF_inj (mulN_lt _ _) (mulN_lt _ _) (by rw [toF_mulN, toF_mulN, toF_mulN, toF_mulN, gr_mula])
theorem subN_addN {x y : Nat} (hx : x < pP) (hy : y < pP) : addN (subN x y) y = x :=
  toF_inj (addN_lt _ _) hx (by rw [toF_addN, toF_subN (Nat.le_of_lt hy), gr_subadd])
theorem mulN_dist (x y z : Nat) : mulN (addN x y) z = addN (mulN x z) (mulN y z) :=
  toF_inj (mulN_lt _ _) (addN_lt _ _) (by rw [toF_mulN, toF_addN, toF_addN, toF_mulN, toF_mulN, gr_dist])
theorem mulN_one {x : Nat} (hx : x < pP) : mulN x 1 = x := by unfold mulN; rw [Nat.mul_one, Nat.mod_eq_of_lt hx]
theorem mulN_zero (x : Nat) : mulN x 0 = 0 := by unfold mulN; rw [Nat.mul_zero, Nat.zero_mod]
theorem subN_self {x : Nat} (hx : x < pP) : subN x x = 0 := by
  unfold subN; rw [show x + (pP - x) = pP by omega, Nat.mod_self]
theorem addN_neg {x : Nat} (hx : x < pP) : addN x (subN 0 x) = 0 :=
  toF_inj (addN_lt _ _) pP_pos (by rw [toF_addN, toF_subN (Nat.le_of_lt hx), toF_zero, gr_addneg])
theorem one_mod : 1 % pP = 1 := by decide +kernel
theorem zero_mod' : 0 % pP = 0 := Nat.zero_mod _
end Go.Proofs.Ytmbbdblmengdhaa
