/- A step of the ladder by value; a clamped key's number and bits. -/
import Derived.Test.YtmbbdblmengdhaaA13
import Derived.Test.YtmbbdblmengdhaaV13
import Derived.Test.YtmbbdblmengdhaaN6
import Derived.Test.YtmbbdblmengdhaaK1
set_option linter.unusedSimpArgs false
set_option linter.unusedVariables false
namespace Go.Proofs.Ytmbbdblmengdhaa
open Go.RowKit

section lists
variable {u A B v x z : List Nat}
theorem rl_get0 (hu : u.length = 5) (hA : A.length = 10) : ((u ++ (A ++ B)).drop (5 + 0 * 10)).take 10 = A := by
  rw [List.drop_left' (by omega), List.take_left' hA]
theorem rl_get1 (hu : u.length = 5) (hA : A.length = 10) (hB : B.length = 10) : ((u ++ (A ++ B)).drop (5 + 1 * 10)).take 10 = B := by
  rw [← List.append_assoc, List.drop_left' (by simp; omega), List.take_of_length_le (by omega)]
theorem rl_u (hu : u.length = 5) : ((u ++ A).drop 0).take 5 = u := by
  rw [List.drop_zero, List.take_left' hu]
theorem rl_set0 (hu : u.length = 5) (hA : A.length = 10) (hv : v.length = 10) : setL (u ++ (A ++ B)) (5 + 0 * 10) v = u ++ (v ++ B) := by
  have e : (u ++ (A ++ B)).drop (5 + 0 * 10 + v.length) = B := by rw [← List.append_assoc, List.drop_left' (by simp; omega)]
  rw [setL_eq _ _ _ (by simp; omega), List.take_left' (by omega), e]
theorem rl_set1 (hu : u.length = 5) (hA : A.length = 10) (hB : B.length = 10) (hv : v.length = 10) : setL (u ++ (A ++ B)) (5 + 1 * 10) v = u ++ (A ++ v) := by
  rw [setL_eq _ _ _ (by simp; omega), ← List.append_assoc u, List.take_left' (by simp; omega), List.drop_eq_nil_of_le (by simp; omega)]
  simp
theorem sd_x (hx : x.length = 5) : ((x ++ z).drop 0).take 5 = x := rl_u hx
theorem sd_z (hx : x.length = 5) (hz : z.length = 5) : ((x ++ z).drop 5).take 5 = z := by
  rw [List.drop_left' hx, List.take_of_length_le (by omega)]
end lists

/-- The rungs' cells stand for u and the sides s. -/
def LimS (r : List Nat) (u : Nat) (s : Sides Nat) : Prop :=
  ∃ ul x0 z0 x1 z1, r = ul ++ (x0 ++ z0 ++ (x1 ++ z1)) ∧ Lim ul u ∧ Lim x0 s.x0 ∧ Lim z0 s.z0 ∧ Lim x1 s.x1 ∧ Lim z1 s.z1
theorem LimS.len {r : List Nat} {u : Nat} {s : Sides Nat} (h : LimS r u s) : r.length = 25 := by
  obtain ⟨ul, x0, z0, x1, z1, rfl, hu, h0, h1, h2, h3⟩ := h
  simp [hu.len, h0.len, h1.len, h2.len, h3.len]

theorem step_any {r : List Nat} {u : Nat} {s : Sides Nat} (h : LimS r u s) (bit : Bool) : ∃ r', LimS r' u (stepB addN subN mulN kN u bit s) ∧
    ∀ {W : Base} {bs : List Blk} {rb : Nat} (w : World), Has W w ((rb, C .u64 r, 95) :: bs) →
      Calls Try.prog 65 #[.pointer (some ⟨rb, 0, none⟩), .int .i64 (bN bit : Nat)] w fun e w' => e = .returned (.tuple #[]) ∧ Has W w' ((rb, C .u64 r', 95) :: bs) := by
  have hlen := h.len
  obtain ⟨ul, x0, z0, x1, z1, rfl, hu, h0, h1, h2, h3⟩ := h
  obtain ⟨k, lk, rk⟩ := small_ex (m := 121665) (by decide)
  rw [show 121665 % pP = kN by decide +kernel] at lk
  have gen : ∀ {x z x' z' : List Nat} {X Z X' Z' : Nat}, Lim x X → Lim z Z → Lim x' X' → Lim z' Z' → ∃ a b c d aa bb e da cb f t m1 ke ake m2 m3 tt m4 : List Nat,
      (Lim m1 (stepG addN subN mulN kN u ⟨X, Z, X', Z'⟩).x0 ∧ Lim m2 (stepG addN subN mulN kN u ⟨X, Z, X', Z'⟩).z0 ∧ Lim m3 (stepG addN subN mulN kN u ⟨X, Z, X', Z'⟩).x1 ∧ Lim m4 (stepG addN subN mulN kN u ⟨X, Z, X', Z'⟩).z1) ∧
      ∀ {l l1 l2 P Q : List Nat} {bit : Nat}, bit < 2 → l.length = 25 → l1.length = 25 → P.length = 10 → Q.length = 10 →
        (l.drop (5 + bit * 10)).take 10 = P → (l.drop (5 + (1 - bit) * 10)).take 10 = Q → (P.drop 0).take 5 = x → (P.drop 5).take 5 = z → (Q.drop 0).take 5 = x' → (Q.drop 5).take 5 = z' →
        setL l (5 + bit * 10) (m1 ++ m2) = l1 → (l1.drop 0).take 5 = ul → setL l1 (5 + (1 - bit) * 10) (m3 ++ m4) = l2 →
        ∀ {W : Base} {bs : List Blk} {rb : Nat} (w : World), Has W w ((rb, C .u64 l, 95) :: bs) →
          Calls Try.prog 65 #[.pointer (some ⟨rb, 0, none⟩), .int .i64 (bit : Int)] w fun e w' => e = .returned (.tuple #[]) ∧ Has W w' ((rb, C .u64 l2, 95) :: bs) := by
    intro x z x' z' X Z X' Z' hx hz hx' hz'
    obtain ⟨a, la, ra⟩ := add_ex hx hz
    obtain ⟨b, lb, rb0⟩ := sub_ex hx hz
    obtain ⟨c, lc, rc⟩ := add_ex hx' hz'
    obtain ⟨d, ld, rd⟩ := sub_ex hx' hz'
    obtain ⟨aa, laa, raa⟩ := mul_ex la la
    obtain ⟨bb, lbb, rbb⟩ := mul_ex lb lb
    obtain ⟨e, le, re⟩ := sub_ex laa lbb
    obtain ⟨da, lda, rda⟩ := mul_ex ld la
    obtain ⟨cb, lcb, rcb⟩ := mul_ex lc lb
    obtain ⟨f, lf, rf⟩ := add_ex lda lcb
    obtain ⟨t, lt, rt⟩ := sub_ex lda lcb
    obtain ⟨m1, lm1, rm1⟩ := mul_ex laa lbb
    obtain ⟨ke, lke, rke⟩ := mul_ex lk le
    obtain ⟨ake, lake, rake⟩ := add_ex laa lke
    obtain ⟨m2, lm2, rm2⟩ := mul_ex le lake
    obtain ⟨m3, lm3, rm3⟩ := mul_ex lf lf
    obtain ⟨tt, ltt, rtt⟩ := mul_ex lt lt
    obtain ⟨m4, lm4, rm4⟩ := mul_ex hu ltt
    refine ⟨a, b, c, d, aa, bb, e, da, cb, f, t, m1, ke, ake, m2, m3, tt, m4, ⟨lm1, lm2, lm3, lm4⟩, ?_⟩
    intro l l1 l2 P Q bit g1 g2 g3 g4 g5 g6 g7 g8 g9 g10 g11 g12 g13 g14 W bs rb w hH
    exact step_walk g1 g2 g3 g4 g5 hu.len hx.len hz.len hx'.len hz'.len la.len lb.len lc.len ld.len laa.len lbb.len le.len lda.len lcb.len lf.len lt.len lm1.len lm2.len lm3.len lm4.len ⟨g6⟩ ⟨g7⟩ ⟨g8⟩ ⟨g9⟩ ⟨g10⟩ ⟨g11⟩ ⟨g12⟩ ⟨g13⟩ ⟨g14⟩
      ra rb0 rc rd raa rbb re rda rcb rf rt rm1 rk rke rake rm2 rm3 rtt rm4 w hH
  have p0 : (x0 ++ z0).length = 10 := by simp [h0.len, h1.len]
  have p1 : (x1 ++ z1).length = 10 := by simp [h2.len, h3.len]
  cases bit with
  | false =>
    obtain ⟨a, b, c, d, aa, bb, e, da, cb, f, t, m1, ke, ake, m2, m3, tt, m4, ⟨l1, l2, l3, l4⟩, hc⟩ := gen h0 h1 h2 h3
    have q0 : (m1 ++ m2).length = 10 := by simp [l1.len, l2.len]
    have q1 : (m3 ++ m4).length = 10 := by simp [l3.len, l4.len]
    refine ⟨ul ++ (m1 ++ m2 ++ (m3 ++ m4)), ⟨ul, m1, m2, m3, m4, rfl, hu, l1, l2, l3, l4⟩, ?_⟩
    exact hc (bit := 0) (by decide) hlen (l1 := ul ++ (m1 ++ m2 ++ (x1 ++ z1))) (by rw [List.length_append, List.length_append, hu.len, q0, p1]) p0 p1 (rl_get0 hu.len p0) (rl_get1 hu.len p0 p1) (sd_x h0.len) (sd_z h0.len h1.len) (sd_x h2.len) (sd_z h2.len h3.len)
      (rl_set0 hu.len p0 q0) (rl_u hu.len) (rl_set1 hu.len q0 p1 q1)
  | true =>
    obtain ⟨a, b, c, d, aa, bb, e, da, cb, f, t, m1, ke, ake, m2, m3, tt, m4, ⟨l1, l2, l3, l4⟩, hc⟩ := gen h2 h3 h0 h1
    have q0 : (m1 ++ m2).length = 10 := by simp [l1.len, l2.len]
    have q1 : (m3 ++ m4).length = 10 := by simp [l3.len, l4.len]
    refine ⟨ul ++ (m3 ++ m4 ++ (m1 ++ m2)), ⟨ul, m3, m4, m1, m2, rfl, hu, l3, l4, l1, l2⟩, ?_⟩
    exact hc (bit := 1) (by decide) hlen (l1 := ul ++ (x0 ++ z0 ++ (m1 ++ m2))) (by rw [List.length_append, List.length_append, hu.len, q0, p0]) p1 p0 (rl_get1 hu.len p0 p1) (rl_get0 hu.len p0) (sd_x h2.len) (sd_z h2.len h3.len) (sd_x h0.len) (sd_z h0.len h1.len)
      (rl_set1 hu.len p0 p1 q0) (rl_u hu.len) (rl_set0 hu.len p0 q1)

/-! ### The sides behind the bits -/
def ladL (u : Nat) (pre : List Bool) : Sides Nat := pre.foldl (fun s b => stepB addN subN mulN kN u b s) ⟨1, 0, u, 1⟩
theorem ladL_snoc (u : Nat) (pre : List Bool) (b : Bool) : ladL u (pre ++ [b]) = stepB addN subN mulN kN u b (ladL u pre) := by simp [ladL]
theorem ladN_congr {u : Nat} {f g : Nat → Bool} : ∀ {n : Nat}, (∀ i, i < n → f i = g i) → ladN u f n = ladN u g n
  | 0, _ => rfl
  | n + 1, h => by
    have ih := ladN_congr (u := u) (f := f) (g := g) (n := n) fun i hi => h i (by omega)
    unfold ladN at ih ⊢
    rw [ladG, ladG, ih, h n (by omega)]
theorem ladL_up (u : Nat) (l : List Nat) : ∀ m, ladL u (upBits l m) = ladN u (fun i => keyBit l (255 - i)) m
  | 0 => rfl
  | m + 1 => by
    rw [upBits_succ, ladL_snoc, ladL_up u l m]
    rfl
theorem ladL_all (u : Nat) {l : List Nat} (hl : l.length = 32) (hb : ∀ i, l.getD i 0 < 256) : ladL u (upBits l 256) = ladN u (bitsOf (valN 256 l) 256) 256 := by
  rw [ladL_up]
  refine ladN_congr fun i hi => ?_
  rw [keyBit_test hl hb (by omega), bitsOf]

/-! ### Clamped keys -/
theorem dig_set {l : List Nat} {B : Nat} (h : ∀ i, l.getD i 0 < B) {j v : Nat} (hv : v < B) : ∀ i, (l.set j v).getD i 0 < B := by
  intro i
  have hi := h i
  simp only [List.getD_eq_getElem?_getD, List.getElem?_set] at hi ⊢
  split
  · split
    · exact hv
    · rename_i h1 h2
      rw [List.getElem?_eq_none (by omega)] at hi
      exact hi
  · exact hi
theorem clamp_dig {l : List Nat} (hb : ∀ i, l.getD i 0 < 256) : ∀ i, (clampL l).getD i 0 < 256 := by
  have h0 := hb 0
  unfold clampL
  exact dig_set (dig_set hb (by omega)) (by omega)
/-- A secret key's number. -/
def secN (l : List Nat) : Nat := valN 256 (clampL l)
theorem secN_sec {l : List Nat} (hl : l.length = 32) (hb : ∀ i, l.getD i 0 < 256) : IsSec (secN l) := by
  have hd := clamp_dig hb
  have hlen : (clampL l).length = 32 := by simp [hl]
  have g0 : (clampL l).getD 0 0 = l.getD 0 0 / 8 * 8 := by
    unfold clampL
    rw [getD_set_ne' (by decide)]
    simp [List.getD_eq_getElem?_getD, List.getElem?_set, hl]
  have g31 : (clampL l).getD 31 0 = l.getD 31 0 % 64 + 64 := by
    unfold clampL
    simp [List.getD_eq_getElem?_getD, List.getElem?_set, hl]
  have hv := digs_val (b := 256) (by decide) (clampL l) hd
  rw [hlen] at hv
  have e0 := digs_getD 256 32 (valN 256 (clampL l)) 0 (by decide)
  have e31 := digs_getD 256 32 (valN 256 (clampL l)) 31 (by decide)
  rw [hv] at e0 e31
  have hlt := valN256_lt hlen hd
  unfold secN
  generalize valN 256 (clampL l) = V at *
  rw [g0, Nat.pow_zero, Nat.div_one] at e0
  rw [g31] at e31
  have p : (256 : Nat) ^ 31 = 452312848583266388373324160190187140051835877600158453279131187530910662656 := by decide +kernel
  have p256 : (2 : Nat) ^ 256 = 115792089237316195423570985008687907853269984665640564039457584007913129639936 := by decide +kernel
  rw [p] at e31
  rw [p256] at hlt
  have p255 : (2 : Nat) ^ 255 = 57896044618658097711785492504343953926634992332820282019728792003956564819968 := by decide +kernel
  have p254 : (2 : Nat) ^ 254 = 28948022309329048855892746252171976963317496166410141009864396001978282409984 := by decide +kernel
  exact ⟨by rw [p255]; omega, by rw [p254]; omega, by omega⟩
end Go.Proofs.Ytmbbdblmengdhaa
