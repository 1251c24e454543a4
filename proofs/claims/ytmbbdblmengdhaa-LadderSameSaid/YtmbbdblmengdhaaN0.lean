/- Plain: the prime 2^255 - 19. -/
set_option linter.unusedSimpArgs false
set_option linter.unusedVariables false
namespace Go.Proofs.Ytmbbdblmengdhaa
def pP : Nat := 57896044618658097711785492504343953926634992332820282019728792003956564819949
end Go.Proofs.Ytmbbdblmengdhaa

/- Plain: powers modulo a number, primes by Pocklington's test, Fermat. -/
namespace Go.Proofs.Ytmbbdblmengdhaa

/-- A prime: above 1, and what divides it is 1 or itself. -/
def Prime (n : Nat) : Prop := 1 < n ∧ ∀ d, d ∣ n → d = 1 ∨ d = n

theorem Prime.coprime {p a : Nat} (hp : Prime p) (h : ¬ p ∣ a) : Nat.gcd p a = 1 := by
  rcases hp.2 _ (Nat.gcd_dvd_left p a) with h1 | h1
  · exact h1
  · exact absurd (h1 ▸ Nat.gcd_dvd_right p a) h
theorem Prime.dvd_mul {p a b : Nat} (hp : Prime p) (h : p ∣ a * b) : p ∣ a ∨ p ∣ b := by
  by_cases ha : p ∣ a
  · exact .inl ha
  · exact .inr (Nat.Coprime.dvd_of_dvd_mul_left (hp.coprime ha) h)

/-! ### A prime divisor -/
theorem exists_prime_dvd : ∀ n, 1 < n → ∃ p, Prime p ∧ p ∣ n := by
  intro n
  induction n using Nat.strongRecOn with
  | ind n ih =>
    intro hn
    by_cases h : ∃ d, d ∣ n ∧ d ≠ 1 ∧ d ≠ n
    · obtain ⟨d, hd, h1, h2⟩ := h
      have hd0 : d ≠ 0 := fun e => by subst e; have := Nat.eq_zero_of_zero_dvd hd; omega
      have hle := Nat.le_of_dvd (by omega) hd
      obtain ⟨p, hp, hpd⟩ := ih d (by omega) (by omega)
      exact ⟨p, hp, Nat.dvd_trans hpd hd⟩
    · refine ⟨n, ⟨hn, fun d hd => ?_⟩, Nat.dvd_refl n⟩
      by_cases h1 : d = 1
      · exact .inl h1
      · by_cases h2 : d = n
        · exact .inr h2
        · exact absurd ⟨d, hd, h1, h2⟩ h

/-- No divisor up to the root: a prime. -/
theorem prime_of_small {n : Nat} (hn : 1 < n) (h : ∀ p, Prime p → p ∣ n → n < p * p) : Prime n := by
  refine ⟨hn, fun d hd => ?_⟩
  by_cases h1 : d = 1
  · exact .inl h1
  · right
    obtain ⟨e, rfl⟩ := hd
    have hd0 : d ≠ 0 := fun e => by subst e; simp at hn
    have he0 : e ≠ 0 := fun e' => by subst e'; simp at hn
    obtain ⟨p, hp, hpd⟩ := exists_prime_dvd d (by omega)
    have hb := h p hp (Nat.dvd_trans hpd (Nat.dvd_mul_right d e))
    by_cases he1 : e = 1
    · subst he1; simp
    · exfalso
      obtain ⟨q, hq, hqe⟩ := exists_prime_dvd e (by omega)
      have hb2 := h q hq (Nat.dvd_trans hqe (Nat.dvd_mul_left e d))
      have h3 := Nat.le_of_dvd (by omega) hpd
      have h4 := Nat.le_of_dvd (by omega) hqe
      have h5 : p * q ≤ d * e := Nat.mul_le_mul h3 h4
      rcases Nat.lt_or_ge p q with hlt | hge
      · have : p * p ≤ p * q := Nat.mul_le_mul_left p (by omega)
        omega
      · have : q * q ≤ p * q := Nat.mul_le_mul_right q hge
        omega

/-! ### Fermat: a ^ r and a stand alike modulo r -/
/-- Binomials. -/
def ch : Nat → Nat → Nat
  | _, 0 => 1
  | 0, _ + 1 => 0
  | n + 1, k + 1 => ch n k + ch n (k + 1)
theorem ch_lt : ∀ n k, n < k → ch n k = 0
  | 0, k + 1, _ => rfl
  | n + 1, k + 1, h => by rw [ch, ch_lt n k (by omega), ch_lt n (k + 1) (by omega)]
theorem ch_self : ∀ n, ch n n = 1
  | 0 => rfl
  | n + 1 => by rw [ch, ch_self n, ch_lt n (n + 1) (by omega)]
theorem ch_zero : ∀ n, ch n 0 = 1
  | 0 => rfl
  | _ + 1 => rfl
theorem ch_mul : ∀ n k, (k + 1) * ch (n + 1) (k + 1) = (n + 1) * ch n k
  | 0, 0 => rfl
  | 0, k + 1 => by rw [ch_lt 1 (k + 2) (by omega), ch_lt 0 (k + 1) (by omega)]; simp
  | n + 1, 0 => by
    have := ch_mul n 0
    have e : ch (n + 1 + 1) 1 = ch (n + 1) 0 + ch (n + 1) 1 := rfl
    simp only [ch_zero, Nat.zero_add, Nat.one_mul, Nat.mul_one] at this e ⊢
    omega
  | n + 1, k + 1 => by
    have h1 := ch_mul n k
    have h2 := ch_mul n (k + 1)
    have e : ch (n + 1) (k + 1) = ch n k + ch n (k + 1) := rfl
    have e2 : ch (n + 2) (k + 2) = ch (n + 1) (k + 1) + ch (n + 1) (k + 2) := rfl
    rw [e2]
    generalize ch (n + 1) (k + 2) = A at *
    generalize ch (n + 1) (k + 1) = B at *
    generalize ch n k = D at *
    generalize ch n (k + 1) = E at *
    subst e
    grind
/-- The sum over i < k of ch n i * x ^ i. -/
def sm (n x : Nat) : Nat → Nat
  | 0 => 0
  | k + 1 => sm n x k + ch n k * x ^ k
theorem sm_succ (n x k : Nat) : sm (n + 1) x (k + 1) = sm n x (k + 1) + x * sm n x k := by
  induction k with
  | zero => simp [sm, ch_zero]
  | succ k ih =>
    rw [sm, ih, sm, sm, sm]
    have e : ch (n + 1) (k + 1) = ch n k + ch n (k + 1) := rfl
    rw [e, Nat.pow_succ]
    grind
theorem sm_pow (n x : Nat) : ∀ k, n < k → sm n x k = (x + 1) ^ n := by
  induction n with
  | zero =>
    intro k hk
    induction k with
    | zero => omega
    | succ k ih =>
      rw [sm]
      cases k with
      | zero => simp [sm, ch_zero]
      | succ k => rw [ih (by omega), ch_lt 0 (k + 1) (by omega)]; simp
  | succ n ih =>
    intro k hk
    cases k with
    | zero => omega
    | succ k =>
      rw [sm_succ, ih (k + 1) (by omega), ih k (by omega), Nat.pow_succ]
      grind
theorem prime_dvd_ch {p : Nat} (hp : Prime p) {k : Nat} (h0 : 0 < k) (h1 : k < p) : p ∣ ch p k := by
  obtain ⟨k, rfl⟩ : ∃ j, k = j + 1 := ⟨k - 1, by omega⟩
  obtain ⟨n, rfl⟩ : ∃ j, p = j + 1 := ⟨p - 1, by omega⟩
  have h : (n + 1) ∣ (k + 1) * ch (n + 1) (k + 1) := by rw [ch_mul]; exact Nat.dvd_mul_right _ _
  rcases hp.dvd_mul h with h | h
  · have := Nat.le_of_dvd (by omega) h; omega
  · exact h
theorem sm_mod {p : Nat} (hp : Prime p) (x : Nat) : ∀ k, 0 < k → k ≤ p → sm p x k % p = 1
  | 0, h, _ => by omega
  | 1, _, _ => by
    have := hp.1
    simp [sm, ch_zero]; exact Nat.mod_eq_of_lt this
  | k + 2, _, h => by
    have ih := sm_mod hp x (k + 1) (by omega) (by omega)
    obtain ⟨c, hc⟩ := prime_dvd_ch hp (k := k + 1) (by omega) (by omega)
    rw [sm, hc, Nat.mul_assoc, Nat.add_mul_mod_self_left, ih]
theorem fermat {p : Nat} (hp : Prime p) (x : Nat) : x ^ p % p = x % p := by
  have h1 := hp.1
  induction x with
  | zero => rw [Nat.zero_pow (by omega)]
  | succ x ih =>
    rw [← sm_pow p x (p + 1) (by omega), sm, ch_self, Nat.one_mul, Nat.add_mod, sm_mod hp x p (by omega) (Nat.le_refl _), ih, Nat.add_mod x 1 p, Nat.mod_eq_of_lt h1, Nat.add_comm]
theorem fermat1 {p : Nat} (hp : Prime p) {x : Nat} (hx : ¬ p ∣ x) : x ^ (p - 1) % p = 1 := by
  have h1 := hp.1
  have h2 := fermat hp x
  obtain ⟨n, rfl⟩ : ∃ n, p = n + 1 := ⟨p - 1, by omega⟩
  rw [Nat.add_sub_cancel]
  have h3 : (n + 1) ∣ x ^ (n + 1) - x := Nat.dvd_of_mod_eq_zero (Nat.sub_mod_eq_zero_of_mod_eq h2)
  rw [Nat.pow_succ] at h3
  have e : x ^ n * x - x = x * (x ^ n - 1) := by rw [Nat.mul_sub, Nat.mul_one, Nat.mul_comm]
  rw [e] at h3
  rcases hp.dvd_mul h3 with h | h
  · exact absurd h hx
  · have hpos : 0 < x ^ n := Nat.pow_pos (by rcases Nat.eq_zero_or_pos x with rfl | h; exact absurd (Nat.dvd_zero _) hx; exact h)
    obtain ⟨c, hc⟩ := h
    have : x ^ n = 1 + (n + 1) * c := by omega
    rw [this, Nat.add_mul_mod_self_left]; exact Nat.mod_eq_of_lt h1

/-! ### Pocklington -/
theorem pow_mod_one {a m p : Nat} (h1 : 1 < p) (h : a ^ m % p = 1) (k : Nat) : a ^ (m * k) % p = 1 := by
  rw [Nat.pow_mul, Nat.pow_mod, h, Nat.one_pow]; exact Nat.mod_eq_of_lt h1
/-- Where two powers are 1, the power by the greatest common divisor is. -/
theorem pow_gcd {a p : Nat} (h1 : 1 < p) : ∀ m n, a ^ m % p = 1 → a ^ n % p = 1 → a ^ (Nat.gcd m n) % p = 1 := by
  intro m n
  induction m, n using Nat.gcd.induction with
  | H0 n => intro _ hn; simpa using hn
  | H1 m n hm ih =>
    intro hm1 hn
    rw [Nat.gcd_rec]
    refine ih ?_ hm1
    have e : a ^ n = a ^ (m * (n / m)) * a ^ (n % m) := by rw [← Nat.pow_add, Nat.div_add_mod]
    rw [e, Nat.mul_mod, pow_mod_one h1 hm1, Nat.one_mul, Nat.mod_mod] at hn
    exact hn
/-- One prime factor q of N - 1, and a witness: every prime factor of N is 1 modulo q. -/
theorem pock_dvd {N q a r : Nat} (hN : 1 < N) (hq : Prime q) (hqN : q ∣ N - 1) (h1 : a ^ (N - 1) % N = 1) (h2 : Nat.gcd (a ^ ((N - 1) / q) % N + (N - 1)) N = 1) (hr : Prime r) (hrN : r ∣ N) : q ∣ r - 1 := by
  have hr1 := hr.1
  have modr : ∀ x y : Nat, x % N = y % N → x % r = y % r := by
    intro x y h
    rw [← Nat.mod_mod_of_dvd x hrN, h, Nat.mod_mod_of_dvd y hrN]
  have h1r : a ^ (N - 1) % r = 1 := by
    have := modr (a ^ (N - 1)) 1 (by rw [h1, Nat.mod_eq_of_lt hN])
    rw [this]; exact Nat.mod_eq_of_lt hr1
  have hra : ¬ r ∣ a := by
    intro h
    have : a ^ (N - 1) % r = 0 := Nat.mod_eq_zero_of_dvd (Nat.dvd_trans h (by rw [show N - 1 = (N - 2) + 1 by omega, Nat.pow_succ]; exact Nat.dvd_mul_left _ _))
    omega
  have hf := fermat1 hr hra
  have h2r : a ^ ((N - 1) / q) % r ≠ 1 := by
    intro h
    have h3 : r ∣ a ^ ((N - 1) / q) % N + (N - 1) := by
      have e : (a ^ ((N - 1) / q) % N + (N - 1)) % r = 0 := by
        have e1 : a ^ ((N - 1) / q) % N % r = 1 := by rw [Nat.mod_mod_of_dvd _ hrN, h]
        rw [Nat.add_mod, e1]
        have e2 : (1 + (N - 1) % r) % r = (1 + (N - 1)) % r := by rw [Nat.add_mod_mod]
        rw [e2, show 1 + (N - 1) = N by omega]
        exact Nat.mod_eq_zero_of_dvd hrN
      exact Nat.dvd_of_mod_eq_zero e
    have := Nat.dvd_gcd h3 hrN
    rw [h2] at this
    have := Nat.le_of_dvd (by omega) this
    omega
  by_cases hd : q ∣ r - 1
  · exact hd
  · exfalso
    have hg := hq.coprime hd
    have e1 : (a ^ ((N - 1) / q)) ^ q % r = 1 := by
      rw [← Nat.pow_mul, Nat.div_mul_cancel hqN, h1r]
    have e2 : (a ^ ((N - 1) / q)) ^ (r - 1) % r = 1 := by
      rw [← Nat.pow_mul, Nat.mul_comm]; exact pow_mod_one hr1 hf _
    have := pow_gcd hr1 _ _ e1 e2
    rw [hg, Nat.pow_one] at this
    exact h2r this
theorem prime_coprime {p q : Nat} (hp : Prime p) (hq : Prime q) (h : p ≠ q) : Nat.gcd p q = 1 :=
  hp.coprime fun hd => by
    rcases hq.2 _ hd with h1 | h1
    · have := hp.1; omega
    · exact h h1
/-- With one prime factor above the root. -/
theorem pock1 {N q a : Nat} (hN : 1 < N) (hq : Prime q) (hqN : q ∣ N - 1) (h1 : a ^ (N - 1) % N = 1) (h2 : Nat.gcd (a ^ ((N - 1) / q) % N + (N - 1)) N = 1) (hb : N < (q + 1) * (q + 1)) : Prime N := by
  refine prime_of_small hN fun r hr hrN => ?_
  have hd := pock_dvd hN hq hqN h1 h2 hr hrN
  have := hr.1
  have := Nat.le_of_dvd (by omega) hd
  have : (q + 1) * (q + 1) ≤ r * r := Nat.mul_le_mul (by omega) (by omega)
  omega
/-- With two. -/
theorem pock2 {N q q' a a' : Nat} (hN : 1 < N) (hq : Prime q) (hqN : q ∣ N - 1) (h1 : a ^ (N - 1) % N = 1) (h2 : Nat.gcd (a ^ ((N - 1) / q) % N + (N - 1)) N = 1)
    (hq' : Prime q') (hqN' : q' ∣ N - 1) (h1' : a' ^ (N - 1) % N = 1) (h2' : Nat.gcd (a' ^ ((N - 1) / q') % N + (N - 1)) N = 1) (hne : q ≠ q')
    (hb : N < (q * q' + 1) * (q * q' + 1)) : Prime N := by
  refine prime_of_small hN fun r hr hrN => ?_
  have hd := pock_dvd hN hq hqN h1 h2 hr hrN
  have hd' := pock_dvd hN hq' hqN' h1' h2' hr hrN
  have hdd : q * q' ∣ r - 1 := Nat.Coprime.mul_dvd_of_dvd_of_dvd (prime_coprime hq hq' hne) hd hd'
  have := hr.1
  have := Nat.le_of_dvd (by omega) hdd
  have : (q * q' + 1) * (q * q' + 1) ≤ r * r := Nat.mul_le_mul (by omega) (by omega)
  omega

/-! ### Powers, reckoned -/
/-- acc * a ^ e modulo N, by the bits of e. -/
def pm (N : Nat) : Nat → Nat → Nat → Nat → Nat
  | 0, _, _, acc => acc
  | f + 1, a, e, acc => if e = 0 then acc else pm N f (a * a % N) (e / 2) (if e % 2 = 1 then acc * a % N else acc)
theorem pm_eq {N : Nat} : ∀ f a e acc, e < 2 ^ f → acc < N → pm N f a e acc = acc * a ^ e % N
  | 0, a, e, acc, he, hacc => by
    have : e = 0 := by simpa using he
    subst this
    simp [pm, Nat.mod_eq_of_lt hacc]
  | f + 1, a, e, acc, he, hacc => by
    rw [pm]
    split <;> rename_i h0
    · subst h0; simp [Nat.mod_eq_of_lt hacc]
    · have hN : 0 < N := by omega
      have e2 : e / 2 < 2 ^ f := by rw [Nat.pow_succ] at he; omega
      have ee : a ^ e = (a * a) ^ (e / 2) * a ^ (e % 2) := by
        have : a * a = a ^ 2 := by rw [Nat.pow_two]
        rw [this, ← Nat.pow_mul, ← Nat.pow_add, Nat.div_add_mod]
      split <;> rename_i h1
      · rw [pm_eq f _ _ _ e2 (Nat.mod_lt _ hN), ee, h1, Nat.pow_one]
        rw [Nat.mul_mod, Nat.mod_mod, ← Nat.pow_mod, ← Nat.mul_mod, Nat.mul_assoc, Nat.mul_comm a]
      · have h1' : e % 2 = 0 := by omega
        rw [pm_eq f _ _ _ e2 hacc, ee, h1', Nat.pow_zero, Nat.mul_one]
        rw [Nat.mul_mod, ← Nat.pow_mod, ← Nat.mul_mod]
theorem pow_of_pm {N a e v : Nat} (f : Nat) (he : e < 2 ^ f) (hN : 1 < N) (h : pm N f a e 1 = v) : a ^ e % N = v := by
  rw [← h, pm_eq f a e 1 he hN, Nat.one_mul]

theorem pock1' {N q : Nat} (f : Nat) (hN : 1 < N) (hq : Prime q) (hqN : q ∣ N - 1) (hf : N < 2 ^ f) (h1 : pm N f 2 (N - 1) 1 = 1) (h2 : Nat.gcd (pm N f 2 ((N - 1) / q) 1 + (N - 1)) N = 1) (hb : N < (q + 1) * (q + 1)) : Prime N :=
  pock1 hN hq hqN (pow_of_pm f (by omega) hN h1) (by rw [← pow_of_pm f (by have := Nat.div_le_self (N - 1) q; omega) hN rfl] at h2; exact h2) hb
theorem pock2' {N q q' : Nat} (f : Nat) (hN : 1 < N) (hq : Prime q) (hqN : q ∣ N - 1) (hf : N < 2 ^ f) (h1 : pm N f 2 (N - 1) 1 = 1) (h2 : Nat.gcd (pm N f 2 ((N - 1) / q) 1 + (N - 1)) N = 1)
    (hq' : Prime q') (hqN' : q' ∣ N - 1) (h2' : Nat.gcd (pm N f 2 ((N - 1) / q') 1 + (N - 1)) N = 1) (hne : q ≠ q') (hb : N < (q * q' + 1) * (q * q' + 1)) : Prime N :=
  pock2 hN hq hqN (pow_of_pm f (by omega) hN h1) (by rw [← pow_of_pm f (by have := Nat.div_le_self (N - 1) q; omega) hN rfl] at h2; exact h2)
    hq' hqN' (pow_of_pm f (by omega) hN h1) (by rw [← pow_of_pm f (by have := Nat.div_le_self (N - 1) q'; omega) hN rfl] at h2'; exact h2') hne hb

/-- Primes by trial: no divisor from 2 on below k. -/
def noDiv (n : Nat) : Nat → Bool
  | 0 => true
  | k + 1 => (decide (k < 2) || decide (n % k ≠ 0)) && noDiv n k
theorem noDiv_of {n : Nat} : ∀ k, noDiv n k = true → ∀ d, 2 ≤ d → d < k → ¬ d ∣ n
  | 0, _, d, _, h => by omega
  | k + 1, h, d, h2, hd => by
    simp only [noDiv, Bool.and_eq_true, Bool.or_eq_true, decide_eq_true_eq] at h
    rcases Nat.lt_or_ge d k with hlt | hge
    · exact noDiv_of k h.2 d h2 hlt
    · obtain rfl : d = k := by omega
      intro hdvd
      have := Nat.mod_eq_zero_of_dvd hdvd
      omega
theorem prime_trial {n : Nat} (k : Nat) (hn : 1 < n) (hk : n < k * k) (h : noDiv n k = true) : Prime n := by
  refine prime_of_small hn fun p hp hpn => ?_
  have h2 := hp.1
  rcases Nat.lt_or_ge p k with hlt | hge
  · exact absurd hpn (noDiv_of k h p (by omega) hlt)
  · have : k * k ≤ p * p := Nat.mul_le_mul hge hge
    omega
end Go.Proofs.Ytmbbdblmengdhaa

/- Plain: the two primes, 2^255 - 19 and the curve's order. -/
namespace Go.Proofs.Ytmbbdblmengdhaa

theorem pr103 : Prime 103 := prime_trial 12 (by decide) (by decide +kernel) (by decide +kernel)
theorem pr127 : Prime 127 := prime_trial 13 (by decide) (by decide +kernel) (by decide +kernel)
theorem pr991 : Prime 991 := prime_trial 33 (by decide) (by decide +kernel) (by decide +kernel)
theorem pr2551 : Prime 2551 := prime_trial 52 (by decide) (by decide +kernel) (by decide +kernel)
theorem pr4153 : Prime 4153 := prime_trial 66 (by decide) (by decide +kernel) (by decide +kernel)
theorem pr430751 : Prime 430751 := prime_trial 658 (by decide) (by decide +kernel) (by decide +kernel)
theorem pr531581 : Prime 531581 := prime_trial 731 (by decide) (by decide +kernel) (by decide +kernel)
theorem pr569003 : Prime 569003 := prime_trial 756 (by decide) (by decide +kernel) (by decide +kernel)
theorem pr1224481 : Prime 1224481 :=
  pock1' 21 (by decide +kernel) pr2551 (by decide +kernel) (by decide +kernel) (by decide +kernel) (by decide +kernel) (by decide +kernel)
theorem pr1257559732178653 : Prime 1257559732178653 :=
  pock2' 51 (by decide +kernel) pr1224481 (by decide +kernel) (by decide +kernel) (by decide +kernel) (by decide +kernel) pr531581 (by decide +kernel) (by decide +kernel) (by decide +kernel) (by decide +kernel)
theorem pr4434155615661930479 : Prime 4434155615661930479 :=
  pock1' 62 (by decide +kernel) pr1257559732178653 (by decide +kernel) (by decide +kernel) (by decide +kernel) (by decide +kernel) (by decide +kernel)
theorem pr172054593956031949258510691 : Prime 172054593956031949258510691 :=
  pock1' 88 (by decide +kernel) pr4434155615661930479 (by decide +kernel) (by decide +kernel) (by decide +kernel) (by decide +kernel) (by decide +kernel)
theorem pr19757330305831588566944191468367130476339 : Prime 19757330305831588566944191468367130476339 :=
  pock1' 134 (by decide +kernel) pr172054593956031949258510691 (by decide +kernel) (by decide +kernel) (by decide +kernel) (by decide +kernel) (by decide +kernel)
theorem pr276602624281642239937218680557139826668747 : Prime 276602624281642239937218680557139826668747 :=
  pock1' 138 (by decide +kernel) pr19757330305831588566944191468367130476339 (by decide +kernel) (by decide +kernel) (by decide +kernel) (by decide +kernel) (by decide +kernel)
theorem pr7237005577332262213973186563042994240857116359379907606001950938285454250989 : Prime 7237005577332262213973186563042994240857116359379907606001950938285454250989 :=
  pock1' 253 (by decide +kernel) pr276602624281642239937218680557139826668747 (by decide +kernel) (by decide +kernel) (by decide +kernel) (by decide +kernel) (by decide +kernel)
theorem pr31757755568855353 : Prime 31757755568855353 :=
  pock2' 55 (by decide +kernel) pr430751 (by decide +kernel) (by decide +kernel) (by decide +kernel) (by decide +kernel) pr4153 (by decide +kernel) (by decide +kernel) (by decide +kernel) (by decide +kernel)
theorem pr2773320623 : Prime 2773320623 :=
  pock1' 32 (by decide +kernel) pr569003 (by decide +kernel) (by decide +kernel) (by decide +kernel) (by decide +kernel) (by decide +kernel)
theorem pr72106336199 : Prime 72106336199 :=
  pock1' 37 (by decide +kernel) pr2773320623 (by decide +kernel) (by decide +kernel) (by decide +kernel) (by decide +kernel) (by decide +kernel)
theorem pr8574133 : Prime 8574133 :=
  pock2' 24 (by decide +kernel) pr991 (by decide +kernel) (by decide +kernel) (by decide +kernel) (by decide +kernel) pr103 (by decide +kernel) (by decide +kernel) (by decide +kernel) (by decide +kernel)
theorem pr1919519569386763 : Prime 1919519569386763 :=
  pock2' 51 (by decide +kernel) pr8574133 (by decide +kernel) (by decide +kernel) (by decide +kernel) (by decide +kernel) pr127 (by decide +kernel) (by decide +kernel) (by decide +kernel) (by decide +kernel)
theorem pr75445702479781427272750846543864801 : Prime 75445702479781427272750846543864801 :=
  pock2' 116 (by decide +kernel) pr1919519569386763 (by decide +kernel) (by decide +kernel) (by decide +kernel) (by decide +kernel) pr72106336199 (by decide +kernel) (by decide +kernel) (by decide +kernel) (by decide +kernel)
theorem pr74058212732561358302231226437062788676166966415465897661863160754340907 : Prime 74058212732561358302231226437062788676166966415465897661863160754340907 :=
  pock2' 236 (by decide +kernel) pr75445702479781427272750846543864801 (by decide +kernel) (by decide +kernel) (by decide +kernel) (by decide +kernel) pr31757755568855353 (by decide +kernel) (by decide +kernel) (by decide +kernel) (by decide +kernel)
theorem pr57896044618658097711785492504343953926634992332820282019728792003956564819949 : Prime 57896044618658097711785492504343953926634992332820282019728792003956564819949 :=
  pock1' 255 (by decide +kernel) pr74058212732561358302231226437062788676166966415465897661863160754340907 (by decide +kernel) (by decide +kernel) (by decide +kernel) (by decide +kernel) (by decide +kernel)
end Go.Proofs.Ytmbbdblmengdhaa
