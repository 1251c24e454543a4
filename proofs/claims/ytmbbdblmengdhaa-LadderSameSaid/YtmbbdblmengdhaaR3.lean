/- Walks of the reference: small, up to its last loop. -/
import Derived.Test.YtmbbdblmengdhaaR1
set_option linter.unusedSimpArgs false
set_option linter.unusedVariables false
namespace Go.Proofs.Ytmbbdblmengdhaa
open Go.RowKit

/-- A carry through the parts. -/
def crR (s : List Nat × Nat) : Nat → List Nat × Nat
  | 0 => s
  | i + 1 => ((crR s i).1.set i (((crR s i).1.getD i 0 + (crR s i).2) % 65536), ((crR s i).1.getD i 0 + (crR s i).2) / 65536)
@[simp] theorem crR_len (l : List Nat) (c i : Nat) : (crR (l, c) i).1.length = l.length := by
  induction i with
  | zero => rfl
  | succ i ih => simp [crR, ih]
/-- The upper half counts 38 times. -/
def fdR (l : List Nat) : Nat → List Nat
  | 0 => l
  | i + 1 => ((fdR l i).set i ((fdR l i).getD i 0 + 38 * (fdR l i).getD (i + 16) 0)).set (i + 16) 0
@[simp] theorem fdR_len (l : List Nat) (i : Nat) : (fdR l i).length = l.length := by
  induction i with
  | zero => rfl
  | succ i ih => simp [fdR, ih]
def rndL (l : List Nat) : List Nat := fdR (crR (l, 0) 32).1 16
def rndR (l : List Nat) : Nat → List Nat
  | 0 => l
  | k + 1 => rndL (rndR l k)
@[simp] theorem rndR_len (l : List Nat) (k : Nat) : (rndR l k).length = l.length := by
  induction k with
  | zero => rfl
  | succ k ih => simp [rndR, rndL, ih]
/-- The lower half, carried into sixteen parts. -/
def outC (l : List Nat) : Nat → List Nat × Nat
  | 0 => (List.replicate 16 0, 0)
  | i + 1 => ((outC l i).1.set i ((l.getD i 0 + (outC l i).2) % 65536), (l.getD i 0 + (outC l i).2) / 65536)
@[simp] theorem outC_len (l : List Nat) (i : Nat) : (outC l i).1.length = 16 := by
  induction i with
  | zero => rfl
  | succ i ih => simp [outC, ih]
/-- 2^255 counts 19 times. -/
def outD (o : List Nat) : Nat → List Nat × Nat
  | 0 => (o.set 15 (o.getD 15 0 % 32768), (o.set 15 (o.getD 15 0 % 32768)).getD 0 0 + 19 * (o.getD 15 0 / 32768))
  | i + 1 => ((outD o i).1.set i ((outD o i).2 % 65536), if i < 15 then ((outD o i).1.set i ((outD o i).2 % 65536)).getD (i + 1) 0 + (outD o i).2 / 65536 else (outD o i).2)
@[simp] theorem outD_len (o : List Nat) (i : Nat) : (outD o i).1.length = o.length := by
  induction i with
  | zero => simp [outD]
  | succ i ih => simp [outD, ih]

theorem getD_le {l : List Nat} {B : Nat} (h : ∀ i, l.getD i 0 ≤ B) {j v : Nat} (hv : v ≤ B) : ∀ i, (l.set j v).getD i 0 ≤ B := by
  intro i
  simp only [List.getD_eq_getElem?_getD, List.getElem?_set] at h ⊢
  split
  · split
    · simpa using hv
    · simp
  · exact h i

theorem crR_bd {l : List Nat} {B : Nat} (hB : 65536 ≤ B) (h : ∀ i, l.getD i 0 ≤ B) (i : Nat) : (∀ j, (crR (l, 0) i).1.getD j 0 ≤ B) ∧ (crR (l, 0) i).2 ≤ B := by
  induction i with
  | zero => exact ⟨h, Nat.zero_le _⟩
  | succ i ih =>
    have := ih.1 i
    have := ih.2
    refine ⟨getD_le ih.1 (by omega), ?_⟩
    simp only [crR]; omega
theorem crR_16 {l : List Nat} (i : Nat) : ∀ j, j < i → (crR (l, 0) i).1.getD j 0 < 65536 := by
  induction i with
  | zero => intro j hj; omega
  | succ i ih =>
    intro j hj
    simp only [crR, List.getD_eq_getElem?_getD, List.getElem?_set] at ih ⊢
    split
    · split
      · simp; omega
      · simp
    · exact ih j (by omega)
theorem getD_of_ge {l : List Nat} {i : Nat} (h : l.length ≤ i) : l.getD i 0 = 0 := by
  simp [List.getElem?_eq_none h]
theorem fdR_bd {l : List Nat} (h : ∀ i, l.getD i 0 < 65536) (i : Nat) : ∀ j, (fdR l i).getD j 0 ≤ 2555904 ∧ (i ≤ j → (fdR l i).getD j 0 < 65536) := by
  induction i with
  | zero => intro j; have := h j; simp only [fdR]; omega
  | succ i ih =>
    intro j
    have h1 := (ih i).2 (Nat.le_refl _)
    have h2 := (ih (i + 16)).2 (by omega)
    have hj := ih j
    simp only [fdR]
    have key : ∀ B, (∀ k, k = j → (fdR l i).getD k 0 ≤ B) → (i = j → (fdR l i).getD i 0 + 38 * (fdR l i).getD (i + 16) 0 ≤ B) → (((fdR l i).set i ((fdR l i).getD i 0 + 38 * (fdR l i).getD (i + 16) 0)).set (i + 16) 0).getD j 0 ≤ B := by
      intro B hB hi
      simp only [List.getD_eq_getElem?_getD, List.getElem?_set] at hB hi ⊢
      split
      · split <;> simp
      · split
        · split
          · rename_i e _; simpa using hi e
          · simp
        · exact hB j rfl
    refine ⟨key _ (fun k hk => by rw [hk]; exact hj.1) (fun _ => by omega), fun hij => ?_⟩
    have := key 65535 (fun k hk => by rw [hk]; have := hj.2 (by omega); omega) (fun e => by omega)
    omega
theorem rnd_bd {l : List Nat} (hl : l.length = 32) {B : Nat} (hB : 2555904 ≤ B) (h : ∀ i, l.getD i 0 ≤ B) (k : Nat) : ∀ i, (rndR l k).getD i 0 ≤ B := by
  induction k with
  | zero => exact h
  | succ k ih =>
    intro i
    have h16 : ∀ i, (crR (rndR l k, 0) 32).1.getD i 0 < 65536 := by
      intro j
      by_cases hj : j < 32
      · exact crR_16 32 j hj
      · rw [getD_of_ge (by simp [hl]; omega)]; omega
    have := (fdR_bd h16 16 i).1
    simp only [rndR, rndL]; omega
theorem outC_bd {l : List Nat} {B : Nat} (h : ∀ i, l.getD i 0 ≤ B) (i : Nat) : (∀ j, (outC l i).1.getD j 0 < 65536) ∧ (outC l i).2 ≤ B := by
  induction i with
  | zero => 
    refine ⟨fun j => ?_, Nat.zero_le _⟩
    simp only [outC, List.getD_eq_getElem?_getD, List.getElem?_replicate]; split <;> simp
  | succ i ih =>
    have h1 := h i
    have h2 := ih.2
    refine ⟨fun j => ?_, by simp only [outC]; omega⟩
    have := getD_le (l := (outC l i).1) (B := 65535) (fun j => by have := ih.1 j; omega) (j := i) (v := (l.getD i 0 + (outC l i).2) % 65536) (by omega) j
    simp only [outC]; omega
theorem outD_bd {o : List Nat} (h : ∀ i, o.getD i 0 < 65536) (i : Nat) : (∀ j, (outD o i).1.getD j 0 < 65536) ∧ (outD o i).2 < 200000 := by
  induction i with
  | zero =>
    have h15 := h 15
    have h0 : ∀ j, (o.set 15 (o.getD 15 0 % 32768)).getD j 0 ≤ 65535 := getD_le (fun j => by have := h j; omega) (by omega)
    have := h0 0
    refine ⟨fun j => by have := h0 j; simp only [outD]; omega, by simp only [outD]; omega⟩
  | succ i ih =>
    have h2 := ih.2
    have h0 : ∀ j, ((outD o i).1.set i ((outD o i).2 % 65536)).getD j 0 ≤ 65535 := getD_le (fun j => by have := ih.1 j; omega) (by omega)
    have := h0 (i + 1)
    refine ⟨fun j => by have := h0 j; simp only [outD]; omega, ?_⟩
    simp only [outD]; split <;> omega
end Go.Proofs.Ytmbbdblmengdhaa
