/- Plain numbers: a product over a divisor, bit by bit of the first factor. No program. -/
import Derived.Test.YtnmekhgilekofaaMath
namespace Go.Proofs.Ytnmekhgilekofaa.Sat

/-- Behind the upper bits of A (all but the k lowest ones). -/
structure St (A B C : Int) (k : Nat) (p q r : Int) : Prop where
  k53 : k ≤ 53
  hp : p = 2 ^ k / 2
  hq : q = A / 2 ^ k * B / C
  hr : r = A / 2 ^ k * B % C
  qM : q ≤ 9007199254740991

theorem st_start (A B C : Int) (h0 : 0 ≤ A) (h1 : A ≤ 9007199254740991) : St A B C 53 4503599627370496 0 0 := by
  have e : A / 2 ^ 53 = 0 := by omega
  exact ⟨Nat.le_refl _, by decide, by rw [e]; simp, by rw [e]; simp, by omega⟩

theorem st_zero {A B C : Int} {k : Nat} {p q r : Int} (h : St A B C k p q r) (hp : p ≤ 0) : k = 0 := by
  rcases k with _ | k
  · rfl
  · have e := h.hp
    rw [Int.pow_succ, Int.mul_ediv_cancel _ (by decide)] at e
    have : (0 : Int) < 2 ^ k := Int.pow_pos (by decide)
    omega

theorem st_pos {A B C : Int} {k : Nat} {p q r : Int} (h : St A B C k p q r) (hp : 1 ≤ p) : ∃ m, k = m + 1 ∧ p = 2 ^ m ∧ p ≤ 4503599627370496 := by
  rcases k with _ | m
  · have e := h.hp
    have : (2 : Int) ^ 0 / 2 = 0 := by decide
    omega
  · have e := h.hp
    rw [Int.pow_succ, Int.mul_ediv_cancel _ (by decide)] at e
    have hm : m ≤ 52 := by have := h.k53; omega
    have : (2 : Int) ^ m ≤ 2 ^ 52 := by
      have : (2 : Nat) ^ m ≤ 2 ^ 52 := Nat.pow_le_pow_right (by decide) hm
      exact_mod_cast this
    exact ⟨m, rfl, e, by omega⟩

theorem st_lo {A B C : Int} {k : Nat} {p q r : Int} (h : St A B C k p q r) (hA : 0 ≤ A) (hB : 0 ≤ B) (hC : 1 ≤ C) : 0 ≤ q ∧ 0 ≤ r ∧ r < C := by
  have hX : 0 ≤ A / 2 ^ k := Int.ediv_nonneg hA (by have : (0 : Int) < 2 ^ k := Int.pow_pos (by decide); omega)
  rw [h.hq, h.hr]
  exact ⟨Int.ediv_nonneg (Int.mul_nonneg hX hB) (by omega), Int.emod_nonneg _ (by omega), Int.emod_lt_of_pos _ (by omega)⟩

theorem twice_div (X q r z C : Int) (hC : 1 ≤ C) (h : X = q * C + r) : (2 * X + z) / C = 2 * q + (2 * r + z) / C ∧ (2 * X + z) % C = (2 * r + z) % C := by
  have e : 2 * X + z = (2 * r + z) + 2 * q * C := by rw [h]; grind
  rw [e, Int.add_mul_ediv_right _ _ (by omega), Int.add_mul_emod_self_right]
  exact ⟨Int.add_comm _ _, rfl⟩

/-- A bit more; z is that bit times B. -/
theorem st_step {A B C : Int} {k : Nat} {p q r : Int} (h : St A B C k p q r) (hC : 1 ≤ C) (hp : 1 ≤ p) (z : Int)
    (hz : A / p % 2 = 1 ∧ z = B ∨ A / p % 2 = 0 ∧ z = 0) (hM : 2 * q + (2 * r + z) / C ≤ 9007199254740991) :
    ∃ m, St A B C m (p / 2) (2 * q + (2 * r + z) / C) ((2 * r + z) % C) ∧ k = m + 1 := by
  obtain ⟨m, rfl, e, _⟩ := st_pos h hp
  have hX : A / p = 2 * (A / 2 ^ (m + 1)) + A / p % 2 := by
    have : A / 2 ^ (m + 1) = A / p / 2 := by rw [Int.pow_succ, ← e, Int.ediv_ediv_of_nonneg (by omega)]
    rw [this]; omega
  have hm : A / 2 ^ m * B = 2 * (A / 2 ^ (m + 1) * B) + z := by
    rw [← e, hX]
    rcases hz with ⟨a, b⟩ | ⟨a, b⟩ <;> rw [a, b]
    · generalize A / 2 ^ (m + 1) = x; grind
    · generalize A / 2 ^ (m + 1) = x; grind
  have hdiv : A / 2 ^ (m + 1) * B = q * C + r := by
    rw [h.hq, h.hr, Int.mul_comm (A / 2 ^ (m + 1) * B / C) C]; exact (Int.mul_ediv_add_emod _ _).symm
  obtain ⟨t1, t2⟩ := twice_div _ q r z C hC hdiv
  exact ⟨m, ⟨by have := h.k53; omega, by rw [e], by rw [hm]; exact t1.symm, by rw [hm]; exact t2.symm, hM⟩, rfl⟩

/-- Too great once, too great in the end. -/
theorem st_big {A B C : Int} {k : Nat} {p q r : Int} (h : St A B C k p q r) (hA : 0 ≤ A) (hB : 0 ≤ B) (hC : 1 ≤ C) (hp : 1 ≤ p) (z : Int)
    (hz : A / p % 2 = 1 ∧ z = B ∨ A / p % 2 = 0 ∧ z = 0) (hM : 9007199254740991 < 2 * q + (2 * r + z) / C) : 9007199254740991 < A * B / C := by
  obtain ⟨m, rfl, e, _⟩ := st_pos h hp
  have hX : A / p = 2 * (A / 2 ^ (m + 1)) + A / p % 2 := by
    have : A / 2 ^ (m + 1) = A / p / 2 := by rw [Int.pow_succ, ← e, Int.ediv_ediv_of_nonneg (by omega)]
    rw [this]; omega
  have hm : A / 2 ^ m * B = 2 * (A / 2 ^ (m + 1) * B) + z := by
    rw [← e, hX]
    rcases hz with ⟨a, b⟩ | ⟨a, b⟩ <;> rw [a, b]
    · generalize A / 2 ^ (m + 1) = x; grind
    · generalize A / 2 ^ (m + 1) = x; grind
  have hdiv : A / 2 ^ (m + 1) * B = q * C + r := by
    rw [h.hq, h.hr, Int.mul_comm (A / 2 ^ (m + 1) * B / C) C]; exact (Int.mul_ediv_add_emod _ _).symm
  obtain ⟨t1, _⟩ := twice_div _ q r z C hC hdiv
  rw [← hm] at t1
  have hle : A / 2 ^ m * B ≤ A * B := by
    apply Int.mul_le_mul_of_nonneg_right _ hB
    rw [← e]; exact Int.ediv_le_self _ hA
  have := Int.ediv_le_ediv (by omega : 0 < C) hle
  omega

theorem st_end {A B C : Int} {p q r : Int} (h : St A B C 0 p q r) : q = A * B / C ∧ r = A * B % C := by
  have e : A / 2 ^ 0 = A := by simp
  have h1 := h.hq; have h2 := h.hr
  rw [e] at h1 h2
  exact ⟨h1, h2⟩

theorem mulDiv_of (a b c : Int) (hc : 1 ≤ num c) (h : num a * num b / num c ≤ 9007199254740991) : mulDiv a b c = num a * num b / num c ∧ mulLeft a b c = num a * num b % num c := by
  unfold mulDiv mulLeft
  rw [if_neg (by omega), if_neg (by omega), num_id (quo_lo a b c) h]
  exact ⟨rfl, rfl⟩
theorem mulDiv_over (a b c : Int) (h : num c = 0 ∨ 9007199254740991 < num a * num b / num c) : mulDiv a b c = 9007199254740991 ∧ mulLeft a b c = 0 := by
  unfold mulDiv mulLeft
  rw [if_pos h]
  rcases h with h | h
  · rw [if_pos h]; exact ⟨rfl, rfl⟩
  · by_cases g : num c = 0
    · rw [if_pos g]; exact ⟨rfl, rfl⟩
    · rw [if_neg g]; exact ⟨num_big (by omega), rfl⟩

end Go.Proofs.Ytnmekhgilekofaa.Sat
