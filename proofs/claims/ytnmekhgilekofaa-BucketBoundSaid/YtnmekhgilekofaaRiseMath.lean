/- Plain numbers: all rise with each number, the parts fall with what they are parted by; times are in order. No program. -/
import Derived.Test.YtnmekhgilekofaaSumMath
import Derived.Test.YtnmekhgilekofaaRefMath
namespace Go.Proofs.Ytnmekhgilekofaa.Sat

theorem num_mono {a b : Int} (h : a ≤ b) : num a ≤ num b := by unfold num; omega
theorem add_more (a m : Int) : num a ≤ add (num a) m := by
  have := num_lo m; have := num_hi a; have := num_lo a
  unfold add; rw [num_num]
  generalize num m = k at *
  generalize num a = x at *
  unfold num; omega
theorem add_lo (a b : Int) : 0 ≤ add a b := num_lo _
theorem add_hi (a b : Int) : add a b ≤ 9007199254740991 := num_hi _
theorem add_mono {a x : Int} (b : Int) (h : a ≤ x) : add a b ≤ add x b := by unfold add num; omega
theorem sub_mono {a x : Int} (b : Int) (h : a ≤ x) : sub a b ≤ sub x b := by unfold sub num; omega
theorem sub_anti {a x : Int} (b : Int) (h : a ≤ x) : sub b x ≤ sub b a := by unfold sub num; omega
theorem prod_mono {a x : Int} (b : Int) (h : a ≤ x) : num a * num b ≤ num x * num b := Int.mul_le_mul_of_nonneg_right (num_mono h) (num_lo b)
theorem prod_mono' {a x : Int} (b : Int) (h : a ≤ x) : num b * num a ≤ num b * num x := Int.mul_le_mul_of_nonneg_left (num_mono h) (num_lo b)
theorem mulDiv_mono {a x : Int} (b c : Int) (h : a ≤ x) : mulDiv a b c ≤ mulDiv x b c := by
  unfold mulDiv
  by_cases hc : num c = 0
  · rw [if_pos hc, if_pos hc]; omega
  · rw [if_neg hc, if_neg hc]
    exact num_mono (Int.ediv_le_ediv (by have := num_lo c; omega) (prod_mono b h))
theorem mul_mono {a x : Int} (b : Int) (h : a ≤ x) : mul a b ≤ mul x b := mulDiv_mono b 1 h
theorem mulUp_ceil (a b c : Int) (hc : num c ≠ 0) : mulUp a b c = num ((num a * num b + num c - 1) / num c) := by
  have c0 := num_lo c
  have p0 := prod_lo a b
  have q0 := quo_lo a b c
  have e := Int.mul_ediv_add_emod (num a * num b) (num c)
  have r0 := rest_lo a b c hc
  have r1 := rest_hi a b c hc
  have hdiv : (num a * num b + num c - 1) / num c = if num a * num b % num c = 0 then num a * num b / num c else num a * num b / num c + 1 := by
    generalize num a * num b / num c = q at *
    generalize num a * num b % num c = r at *
    by_cases hr : r = 0
    · rw [if_pos hr]
      have : num a * num b + num c - 1 = (num c - 1) + num c * q := by omega
      rw [this, Int.add_mul_ediv_left _ _ hc, Int.ediv_eq_zero_of_lt (by omega) (by omega)]; omega
    · rw [if_neg hr]
      have : num a * num b + num c - 1 = (r - 1) + num c * (q + 1) := by rw [Int.mul_add]; omega
      rw [this, Int.add_mul_ediv_left _ _ hc, Int.ediv_eq_zero_of_lt (by omega) (by omega)]; omega
  rw [hdiv]
  unfold mulUp
  by_cases g : 9007199254740991 < num a * num b / num c
  · obtain ⟨e1, e2⟩ := mulDiv_over a b c (Or.inr g)
    rw [e2, if_pos rfl, e1]
    split
    · rw [num_big (by omega)]
    · rw [num_big (by omega)]
  · obtain ⟨e1, e2⟩ := mulDiv_of a b c (by omega) (by omega)
    rw [e1, e2]
    by_cases hr : num a * num b % num c = 0
    · rw [if_pos hr, if_pos hr, num_id q0 (by omega)]
    · rw [if_neg hr, if_neg hr]
theorem mulUp_mono {a x : Int} (b c : Int) (hc : num c ≠ 0) (h : a ≤ x) : mulUp b a c ≤ mulUp b x c := by
  rw [mulUp_ceil b a c hc, mulUp_ceil b x c hc]
  exact num_mono (Int.ediv_le_ediv (by have := num_lo c; omega) (by have := prod_mono' b h; omega))
theorem div_anti {p d e : Int} (hp : 0 ≤ p) (hd : 0 < d) (h : d ≤ e) : p / e ≤ p / d := by
  apply Int.le_ediv_of_mul_le hd
  have q0 : 0 ≤ p / e := Int.ediv_nonneg hp (by omega)
  have h1 : p / e * d ≤ p / e * e := Int.mul_le_mul_of_nonneg_left h q0
  have h2 : p / e * e ≤ p := Int.ediv_mul_le p (by omega)
  omega
theorem mulDiv_anti {c d : Int} (a b : Int) (hc : num c ≠ 0) (h : c ≤ d) : mulDiv a b d ≤ mulDiv a b c := by
  have := num_lo c; have := num_mono h
  unfold mulDiv
  rw [if_neg hc, if_neg (by omega)]
  exact num_mono (div_anti (prod_lo a b) (by omega) (num_mono h))
theorem add_one_ne (a : Int) : num (add a 1) ≠ 0 := by
  have := num_lo a
  unfold add; rw [num_num, num_one]
  generalize num a = x at *
  unfold num; omega

theorem isNum_neg1 : isNum (-1) = false := rfl
theorem ends_cases (x d : Int) (hx : x = -1 ∨ (0 ≤ x ∧ x ≤ 9007199254740991)) : (x = -1 ∧ ends x d = -1) ∨ (0 ≤ x ∧ x ≤ 9007199254740991 ∧ ends x d = add x d ∧ x ≤ ends x d ∧ ends x d ≤ 9007199254740991) := by
  rcases hx with rfl | ⟨h0, h1⟩
  · exact Or.inl ⟨rfl, ends_no rfl⟩
  · refine Or.inr ⟨h0, h1, ends_yes (isNum_yes h0 h1), ?_, ?_⟩
    · rw [ends_yes (isNum_yes h0 h1)]
      have := add_more x d; rw [num_id h0 h1] at this; exact this
    · rw [ends_yes (isNum_yes h0 h1)]; exact add_hi _ _
theorem tm_of {x : Int} (hx : x = -1 ∨ (0 ≤ x ∧ x ≤ 9007199254740991)) : tm x = x := by
  rcases hx with rfl | ⟨h0, h1⟩
  · rfl
  · exact tm_yes (isNum_yes h0 h1)
theorem earlier_num {x y : Int} (hx : 0 ≤ x ∧ x ≤ 9007199254740991) (hy : 0 ≤ y ∧ y ≤ 9007199254740991) : earlier x y = min x y := by
  rw [earlier_tm, tm_of (Or.inr hx), tm_of (Or.inr hy)]; unfold earlierT; rw [if_neg (by omega), if_neg (by omega)]
theorem later_num {x y : Int} (hx : 0 ≤ x ∧ x ≤ 9007199254740991) (hy : 0 ≤ y ∧ y ≤ 9007199254740991) : later x y = max x y := by
  rw [later_tm, tm_of (Or.inr hx), tm_of (Or.inr hy)]; unfold laterT; rw [if_neg (by omega), if_neg (by omega)]
theorem earlier_neg {y : Int} (hy : 0 ≤ y ∧ y ≤ 9007199254740991) : earlier (-1) y = y := by
  rw [earlier_tm, tm_of (Or.inl rfl), tm_of (Or.inr hy)]; unfold earlierT; rw [if_pos rfl]
theorem earlier_neg' {y : Int} (hy : 0 ≤ y ∧ y ≤ 9007199254740991) : earlier y (-1) = y := by
  rw [earlier_tm, tm_of (Or.inl rfl), tm_of (Or.inr hy)]; unfold earlierT; rw [if_neg (by omega), if_pos rfl]
theorem later_neg {y : Int} (hy : 0 ≤ y ∧ y ≤ 9007199254740991) : later (-1) y = -1 := by
  rw [later_tm, tm_of (Or.inl rfl), tm_of (Or.inr hy)]; unfold laterT; rw [if_pos rfl]
theorem later_neg' {y : Int} (hy : 0 ≤ y ∧ y ≤ 9007199254740991) : later y (-1) = -1 := by
  rw [later_tm, tm_of (Or.inl rfl), tm_of (Or.inr hy)]; unfold laterT; rw [if_neg (by omega), if_pos rfl]
theorem earlier_nn : earlier (-1) (-1) = -1 := by decide
theorem later_nn : later (-1) (-1) = -1 := by decide

theorem ends_core (x y m0 m1 : Int) (hx : x = -1 ∨ (0 ≤ x ∧ x ≤ 9007199254740991)) (hy : y = -1 ∨ (0 ≤ y ∧ y ≤ 9007199254740991)) (hxy : y = -1 ∨ (0 ≤ x ∧ x ≤ y)) :
    earlier (ends x m0) (ends y m0) = ends x m0 ∧ earlier (ends x m0) (ends x (add m0 m1)) = ends x m0 ∧ earlier x (ends x m0) = x ∧ (ends x m0 == -1) = (x == -1) := by
  rcases ends_cases x m0 hx with ⟨rfl, e⟩ | ⟨x0, x1, e, e1, e2⟩
  · have h3 : ends (-1) (add m0 m1) = -1 := ends_no rfl
    have h4 : y = -1 := by omega
    subst h4
    rw [h3, e]
    exact ⟨earlier_nn, earlier_nn, earlier_nn, rfl⟩
  · refine ⟨?_, ?_, ?_, ?_⟩
    · rcases ends_cases y m0 hy with ⟨rfl, f⟩ | ⟨y0, y1, f, f1, f2⟩
      · rw [f]; exact earlier_neg' ⟨by omega, e2⟩
      · rw [earlier_num ⟨by omega, e2⟩ ⟨by omega, f2⟩]
        have : add x m0 ≤ add y m0 := add_mono m0 (by omega)
        omega
    · rcases ends_cases x (add m0 m1) hx with ⟨h, _⟩ | ⟨_, _, f, f1, f2⟩
      · omega
      · rw [earlier_num ⟨by omega, e2⟩ ⟨by omega, f2⟩]
        have : add x m0 ≤ add x (add m0 m1) := by
          have h := add_more m0 m1
          have h' : add m0 m1 = add (num m0) m1 := by unfold add; rw [num_num]
          rw [← h'] at h
          unfold add at *
          have := num_id (num_lo m0) (num_hi m0)
          have e3 : num (num (num m0 + num m1)) = num (num m0 + num m1) := num_num _
          rw [e3]
          exact num_mono (by omega)
        omega
    · rw [earlier_num ⟨x0, x1⟩ ⟨by omega, e2⟩]; omega
    · have h1 : (ends x m0 == -1) = false := by rw [beq_eq_false_iff_ne]; omega
      have h2 : (x == -1) = false := by rw [beq_eq_false_iff_ne]; omega
      rw [h1, h2]

/-- Times: a is one, or Never. -/
def clipT (a : Int) : Int := if isTime a = true then a else -1
theorem clipT_cases (a : Int) : clipT a = -1 ∨ (0 ≤ clipT a ∧ clipT a ≤ 9007199254740991) := by
  unfold clipT
  split
  · rename_i h
    unfold isTime at h
    rw [Bool.or_eq_true] at h
    rcases h with h | h
    · left; simpa using h
    · right; exact isNum_true h
  · left; rfl

end Go.Proofs.Ytnmekhgilekofaa.Sat
