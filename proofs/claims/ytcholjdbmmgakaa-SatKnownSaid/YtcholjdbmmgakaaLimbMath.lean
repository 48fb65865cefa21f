/- Plain numbers: a product in four parts of 27 bits; which of two is less. No program. -/
import Derived.Test.YtcholjdbmmgakaaSumMath
namespace Go.Proofs.Ytcholjdbmmgakaa.Sat

def d0 (n : Int) : Int := n % 134217728
def d1 (n : Int) : Int := n / 134217728 % 134217728
def d2 (n : Int) : Int := n / 18014398509481984 % 134217728
def d3 (n : Int) : Int := n / 2417851639229258349412352

/-- Parts of a product: x the first factor's, y the second one's. -/
structure Prods (a b x0 x1 y0 y1 X Y Z W : Int) : Prop where
  ex0 : a % 134217728 = x0
  ex1 : a / 134217728 = x1
  ey0 : b % 134217728 = y0
  ey1 : b / 134217728 = y1
  eX : x0 * y0 = X
  eY : x0 * y1 = Y
  eZ : x1 * y0 = Z
  eW : x1 * y1 = W
  hx0 : 0 ≤ x0 ∧ x0 ≤ 134217727
  hx1 : 0 ≤ x1 ∧ x1 ≤ 67108864
  hy0 : 0 ≤ y0 ∧ y0 ≤ 134217727
  hy1 : 0 ≤ y1 ∧ y1 ≤ 67108864
  hX : 0 ≤ X ∧ X ≤ 18014398241046529
  hY : 0 ≤ Y ∧ Y ≤ 9007199254740992
  hZ : 0 ≤ Z ∧ Z ≤ 9007199254740992
  hW : 0 ≤ W ∧ W ≤ 4503599627370496
  all : a * b = X + (Y + Z) * 134217728 + W * 18014398509481984

theorem mul_box {x y p q : Int} (hx : 0 ≤ x ∧ x ≤ p) (hy : 0 ≤ y ∧ y ≤ q) : 0 ≤ x * y ∧ x * y ≤ p * q := by
  refine ⟨Int.mul_nonneg hx.1 hy.1, ?_⟩
  exact Int.le_trans (Int.mul_le_mul_of_nonneg_right hx.2 hy.1) (Int.mul_le_mul_of_nonneg_left hy.2 (by omega))

theorem prods (a b : Int) (a0 : 0 ≤ a) (a1 : a ≤ 9007199254740992) (b0 : 0 ≤ b) (b1 : b ≤ 9007199254740992) : ∃ x0 x1 y0 y1 X Y Z W, Prods a b x0 x1 y0 y1 X Y Z W := by
  refine ⟨_, _, _, _, _, _, _, _, rfl, rfl, rfl, rfl, rfl, rfl, rfl, rfl, by omega, by omega, by omega, by omega, ?_, ?_, ?_, ?_, ?_⟩
  · have := mul_box (x := a % 134217728) (y := b % 134217728) (p := 134217727) (q := 134217727) (by omega) (by omega); omega
  · have := mul_box (x := a % 134217728) (y := b / 134217728) (p := 134217727) (q := 67108864) (by omega) (by omega); omega
  · have := mul_box (x := a / 134217728) (y := b % 134217728) (p := 67108864) (q := 134217727) (by omega) (by omega); omega
  · have := mul_box (x := a / 134217728) (y := b / 134217728) (p := 67108864) (q := 67108864) (by omega) (by omega); omega
  · have ea : a = a / 134217728 * 134217728 + a % 134217728 := by omega
    have eb : b = b / 134217728 * 134217728 + b % 134217728 := by omega
    generalize a / 134217728 = x1 at *
    generalize a % 134217728 = x0 at *
    generalize b / 134217728 = y1 at *
    generalize b % 134217728 = y0 at *
    rw [ea, eb]; grind

theorem digits {a b x0 x1 y0 y1 X Y Z W : Int} (h : Prods a b x0 x1 y0 y1 X Y Z W) :
    X % 134217728 = d0 (a * b) ∧ (Y + Z + X / 134217728) % 134217728 = d1 (a * b) ∧ (W + (Y + Z + X / 134217728) / 134217728) % 134217728 = d2 (a * b) ∧ (W + (Y + Z + X / 134217728) / 134217728) / 134217728 = d3 (a * b) := by
  have e := h.all; have := h.hX; have := h.hY; have := h.hZ; have := h.hW
  unfold d0 d1 d2 d3
  rw [e]
  refine ⟨?_, ?_, ?_, ?_⟩ <;> omega

theorem digits_eq {n m : Int} : (d0 n = d0 m ∧ d1 n = d1 m ∧ d2 n = d2 m ∧ d3 n = d3 m) ↔ n = m := by
  unfold d0 d1 d2 d3
  constructor
  · intro h; omega
  · rintro rfl; exact ⟨rfl, rfl, rfl, rfl⟩
theorem less3 {n m : Int} (h : d3 n ≠ d3 m) : decide (d3 n < d3 m) = decide (n < m) := by
  rw [decide_eq_decide]; unfold d3 at *; omega
theorem less2 {n m : Int} (e3 : d3 n = d3 m) (h : d2 n ≠ d2 m) : decide (d2 n < d2 m) = decide (n < m) := by
  rw [decide_eq_decide]; unfold d2 d3 at *; omega
theorem less1 {n m : Int} (e3 : d3 n = d3 m) (e2 : d2 n = d2 m) (h : d1 n ≠ d1 m) : decide (d1 n < d1 m) = decide (n < m) := by
  rw [decide_eq_decide]; unfold d1 d2 d3 at *; omega
theorem less0 {n m : Int} (e3 : d3 n = d3 m) (e2 : d2 n = d2 m) (e1 : d1 n = d1 m) : decide (d0 n < d0 m) = decide (n < m) := by
  rw [decide_eq_decide]; unfold d0 d1 d2 d3 at *; omega

/-- What the law asks of a quotient. -/
theorem exact_quo (a b c : Int) (hc : 1 ≤ num c) :
    mulDiv a b c * num c ≤ num a * num b ∧ (mulDiv a b c ≠ 9007199254740991 → num a * num b < (mulDiv a b c + 1) * num c ∧
      (num a * num b = mulDiv a b c * num c → mulUp a b c = mulDiv a b c) ∧ (num a * num b ≠ mulDiv a b c * num c → mulUp a b c = mulDiv a b c + 1)) ∧
      (mulDiv a b c = 9007199254740991 → mulUp a b c = 9007199254740991) := by
  have p0 := prod_lo a b
  have q0 := quo_lo a b c
  have e := Int.mul_ediv_add_emod (num a * num b) (num c)
  have r0 := rest_lo a b c (by omega)
  have r1 := rest_hi a b c (by omega)
  have hm : mulDiv a b c = num (num a * num b / num c) := by unfold mulDiv; rw [if_neg (by omega)]
  rcases Int.lt_or_le 9007199254740991 (num a * num b / num c) with g | g
  · have h1 : mulDiv a b c = 9007199254740991 := by rw [hm, num_big (by omega)]
    have h2 : mulLeft a b c = 0 := by unfold mulLeft; rw [if_pos (Or.inr g)]
    have h3 : mulUp a b c = 9007199254740991 := by unfold mulUp; rw [if_pos h2, h1]
    rw [h1, h3]
    refine ⟨?_, fun h => absurd rfl h, fun _ => rfl⟩
    have : 9007199254740991 * num c ≤ num a * num b / num c * num c := Int.mul_le_mul_of_nonneg_right (by omega) (by omega)
    rw [Int.mul_comm (num a * num b / num c)] at this
    omega
  · have h1 : mulDiv a b c = num a * num b / num c := by rw [hm, num_id q0 g]
    have h2 : mulLeft a b c = num a * num b % num c := by unfold mulLeft; rw [if_neg (by omega)]
    rw [Int.mul_comm (num c)] at e
    unfold mulUp
    rw [h2, h1]
    generalize num a * num b / num c = q at *
    generalize num a * num b % num c = r at *
    have hx : (q + 1) * num c = q * num c + num c := by grind
    rw [hx]
    generalize q * num c = x at *
    refine ⟨by omega, fun hq => ⟨by omega, fun h => by rw [if_pos (by omega)], fun h => by rw [if_neg (by omega), num_id (by omega) (by omega)]⟩, fun hq => ?_⟩
    by_cases hr : r = 0
    · rw [if_pos hr, hq]
    · rw [if_neg hr, hq]; decide

end Go.Proofs.Ytcholjdbmmgakaa.Sat
