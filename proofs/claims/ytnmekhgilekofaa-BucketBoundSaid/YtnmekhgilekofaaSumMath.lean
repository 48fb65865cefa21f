/- Plain numbers: sums and products that do not wrap: order, putting together, rising. No program. -/
import Derived.Test.YtnmekhgilekofaaMath
namespace Go.Proofs.Ytnmekhgilekofaa.Sat

theorem num_num (n : Int) : num (num n) = num n := num_id (num_lo n) (num_hi n)
theorem num_one : num 1 = 1 := by decide
theorem num_zero : num 0 = 0 := by decide
theorem add_comm' (a b : Int) : add a b = add b a := by unfold add; rw [Int.add_comm]
theorem add_assoc' (a b c : Int) : add (add a b) c = add a (add b c) := by unfold add num; omega
theorem add_zero' (a : Int) : add a 0 = num a := by unfold add num; omega
theorem sub_self' (a : Int) : sub a a = 0 := by unfold sub num; omega
theorem sub_add (a b : Int) (h : add a b ≠ 9007199254740991) : sub (add a b) b = num a := by unfold sub add num at *; omega

theorem mul_def (a b : Int) : mul a b = num (num a * num b) := by
  unfold mul mulDiv; rw [num_one]; simp
theorem mul_comm' (a b : Int) : mul a b = mul b a := by rw [mul_def, mul_def, Int.mul_comm]
theorem mul_one' (a : Int) : mul a 1 = num a := by rw [mul_def, num_one, Int.mul_one, num_num]
theorem mul_zero' (a : Int) : mul a 0 = 0 := by rw [mul_def, num_zero, Int.mul_zero, num_zero]

/-- A factor above the greatest number. -/
theorem cut_mul (p c : Int) (hc : 0 ≤ c) : num (num p * c) = num (p * c) := by
  rcases Int.lt_or_le p 0 with h | h
  · rw [num_neg (by omega : p ≤ 0)]
    have : p * c ≤ 0 := Int.mul_nonpos_of_nonpos_of_nonneg (by omega) hc
    rw [num_neg this, Int.zero_mul, num_zero]
  · rcases Int.lt_or_le p 9007199254740991 with g | g
    · rw [num_id h (by omega)]
    · rw [num_big g]
      by_cases hz : c = 0
      · subst hz; simp
      · have h1 : 9007199254740991 * 1 ≤ 9007199254740991 * c := Int.mul_le_mul_of_nonneg_left (by omega) (by omega)
        have h2 : 9007199254740991 * c ≤ p * c := Int.mul_le_mul_of_nonneg_right g hc
        rw [num_big (by omega), num_big (by omega)]
theorem mul_assoc' (a b c : Int) : mul (mul a b) c = mul a (mul b c) := by
  rw [mul_def, mul_def, mul_def, mul_def, num_num, num_num]
  rw [cut_mul _ _ (num_lo c), Int.mul_comm (num a) (num (num b * num c)), cut_mul _ _ (num_lo a), Int.mul_comm _ (num a), Int.mul_assoc]

end Go.Proofs.Ytnmekhgilekofaa.Sat
