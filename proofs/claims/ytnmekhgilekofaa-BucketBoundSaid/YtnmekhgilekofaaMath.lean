/- Plain numbers: what saturating arithmetic answers. No program. -/
import Derived.RowKit3
namespace Go.Proofs.Ytnmekhgilekofaa.Sat

def M : Int := 9007199254740991

theorem M_eq : M = 9007199254740991 := rfl

/-- A number, as what it counts. -/
def num (n : Int) : Int := max 0 (min n 9007199254740991)
def isNum (n : Int) : Bool := decide (0 ≤ n ∧ n ≤ 9007199254740991)
def add (a b : Int) : Int := num (num a + num b)
def sub (a b : Int) : Int := num (num a - num b)

theorem num_lo (n : Int) : 0 ≤ num n := by unfold num; omega
theorem num_hi (n : Int) : num n ≤ 9007199254740991 := by unfold num; omega
theorem num_id {n : Int} (h0 : 0 ≤ n) (h1 : n ≤ 9007199254740991) : num n = n := by unfold num; omega
theorem num_neg {n : Int} (h : n ≤ 0) : num n = 0 := by unfold num; omega
theorem num_big {n : Int} (h : 9007199254740991 ≤ n) : num n = 9007199254740991 := by unfold num; omega
theorem isNum_num (n : Int) : isNum n = (n == num n) := by
  rw [Bool.eq_iff_iff]; unfold isNum num; simp; omega

theorem prod_lo (a b : Int) : 0 ≤ num a * num b := Int.mul_nonneg (num_lo a) (num_lo b)
theorem prod_hi (a b : Int) : num a * num b ≤ 81129638414606663681390495662081 := by
  have h1 : num a * num b ≤ 9007199254740991 * num b := Int.mul_le_mul_of_nonneg_right (num_hi a) (num_lo b)
  have := num_hi b
  omega

/-- The quotient, downwards; what is left; the quotient, upwards. -/
def mulDiv (a b c : Int) : Int := if num c = 0 then 9007199254740991 else num (num a * num b / num c)
def mulLeft (a b c : Int) : Int := if num c = 0 ∨ 9007199254740991 < num a * num b / num c then 0 else num a * num b % num c
def mulUp (a b c : Int) : Int := if mulLeft a b c = 0 then mulDiv a b c else num (mulDiv a b c + 1)
def mul (a b : Int) : Int := mulDiv a b 1

theorem quo_lo (a b c : Int) : 0 ≤ num a * num b / num c := Int.ediv_nonneg (prod_lo a b) (num_lo c)
theorem rest_lo (a b c : Int) (h : num c ≠ 0) : 0 ≤ num a * num b % num c := Int.emod_nonneg _ h
theorem rest_hi (a b c : Int) (h : num c ≠ 0) : num a * num b % num c < num c := Int.emod_lt_of_pos _ (by have := num_lo c; omega)

/-- Where the quotient does not take one word it is far beyond the greatest number. -/
theorem not_fits (a b c : Int) (h : num c ≤ num a * num b / 18446744073709551616) (hc : num c ≠ 0) : 9007199254740991 < num a * num b / num c := by
  have c0 := num_lo c
  have key : 18446744073709551616 * num c ≤ num a * num b := by
    generalize num a * num b = p at *
    omega
  have := Int.le_ediv_of_mul_le (by omega : 0 < num c) key
  omega
theorem fits_pos (a b c : Int) (h : num a * num b / 18446744073709551616 < num c) : num c ≠ 0 := by
  have := prod_lo a b
  omega
theorem fits_word (a b c : Int) (h : num a * num b / 18446744073709551616 < num c) : num a * num b / num c ≤ 18446744073709551615 := by
  have := prod_lo a b
  have key : num a * num b < 18446744073709551616 * num c := by omega
  have := Int.ediv_lt_of_lt_mul (by omega : 0 < num c) key
  omega

theorem mulDiv_lo (a b c : Int) : 0 ≤ mulDiv a b c := by unfold mulDiv; split; omega; exact num_lo _
theorem mulDiv_hi (a b c : Int) : mulDiv a b c ≤ 9007199254740991 := by unfold mulDiv; split; omega; exact num_hi _
theorem mulDiv_no (a b c : Int) (h : num c ≤ num a * num b / 18446744073709551616) : mulDiv a b c = 9007199254740991 := by
  unfold mulDiv
  by_cases hc : num c = 0
  · rw [if_pos hc]
  · rw [if_neg hc]; exact num_big (by have := not_fits a b c h hc; omega)
theorem mulLeft_no (a b c : Int) (h : num c ≤ num a * num b / 18446744073709551616) : mulLeft a b c = 0 := by
  unfold mulLeft
  by_cases hc : num c = 0
  · rw [if_pos (Or.inl hc)]
  · rw [if_pos (Or.inr (not_fits a b c h hc))]
theorem mulUp_no (a b c : Int) (h : num c ≤ num a * num b / 18446744073709551616) : mulUp a b c = 9007199254740991 := by
  unfold mulUp; rw [mulLeft_no a b c h, mulDiv_no a b c h]; rfl
theorem mulDiv_yes (a b c : Int) (h : num a * num b / 18446744073709551616 < num c) : mulDiv a b c = num (num a * num b / num c) := by
  unfold mulDiv; rw [if_neg (fits_pos a b c h)]
theorem mulRest_big (a b c : Int) (h : num a * num b / 18446744073709551616 < num c) (g : 9007199254740991 < num a * num b / num c) : mulDiv a b c = 9007199254740991 ∧ mulLeft a b c = 0 := by
  refine ⟨by rw [mulDiv_yes a b c h, num_big (by omega)], ?_⟩
  unfold mulLeft; rw [if_pos (Or.inr g)]
theorem mulRest_small (a b c : Int) (h : num a * num b / 18446744073709551616 < num c) (g : num a * num b / num c ≤ 9007199254740991) : mulDiv a b c = num a * num b / num c ∧ mulLeft a b c = num a * num b % num c := by
  refine ⟨by rw [mulDiv_yes a b c h, num_id (quo_lo a b c) g], ?_⟩
  unfold mulLeft; rw [if_neg (by have := fits_pos a b c h; omega)]
theorem mulUp_yes_pos (a b c : Int) (h : num a * num b / 18446744073709551616 < num c) (g : 0 < num a * num b % num c) : mulUp a b c = num (num (num a * num b / num c) + 1) := by
  by_cases hb : 9007199254740991 < num a * num b / num c
  · obtain ⟨e1, e2⟩ := mulRest_big a b c h hb
    unfold mulUp; rw [e2, if_pos rfl, e1, num_big (by omega : 9007199254740991 ≤ num a * num b / num c)]; rfl
  · obtain ⟨e1, e2⟩ := mulRest_small a b c h (by omega)
    unfold mulUp; rw [e2, if_neg (by omega), e1, num_id (quo_lo a b c) (by omega)]
theorem mulUp_yes_zero (a b c : Int) (h : num a * num b / 18446744073709551616 < num c) (g : num a * num b % num c = 0) : mulUp a b c = num (num a * num b / num c) := by
  have : mulLeft a b c = 0 := by unfold mulLeft; split; rfl; exact g
  unfold mulUp; rw [if_pos this, mulDiv_yes a b c h]

/-- Times. -/
def tm (a : Int) : Int := if isNum a = true then a else -1
def rank (a : Int) : Int := if isNum a = true then a else 18446744073709551615
def isTime (a : Int) : Bool := a == -1 || isNum a
def unrank (n : Int) : Int := if n = 18446744073709551615 then -1 else n
def earlier (a b : Int) : Int := unrank (min (rank a) (rank b))
def later (a b : Int) : Int := unrank (max (rank a) (rank b))
def ends (t d : Int) : Int := if isNum t = true then add t d else -1

theorem isNum_true {a : Int} (h : isNum a = true) : 0 ≤ a ∧ a ≤ 9007199254740991 := of_decide_eq_true h
theorem isNum_false {a : Int} (h : isNum a = false) : ¬ (0 ≤ a ∧ a ≤ 9007199254740991) := of_decide_eq_false h
theorem isNum_yes {a : Int} (h0 : 0 ≤ a) (h1 : a ≤ 9007199254740991) : isNum a = true := decide_eq_true ⟨h0, h1⟩
theorem isNum_neg {a : Int} (h : a < 0) : isNum a = false := decide_eq_false (by omega)
theorem isNum_big {a : Int} (h : 9007199254740991 < a) : isNum a = false := decide_eq_false (by omega)
theorem tm_yes {a : Int} (h : isNum a = true) : tm a = a := by unfold tm; rw [if_pos h]
theorem tm_no {a : Int} (h : isNum a = false) : tm a = -1 := by unfold tm; rw [h]; rfl
theorem rank_yes {a : Int} (h : isNum a = true) : rank a = a := by unfold rank; rw [if_pos h]
theorem rank_no {a : Int} (h : isNum a = false) : rank a = 18446744073709551615 := by unfold rank; rw [h]; rfl
theorem rank_lo (a : Int) : 0 ≤ rank a := by unfold rank; split; rename_i h; exact (isNum_true h).1; omega
theorem rank_hi (a : Int) : rank a ≤ 18446744073709551615 := by unfold rank; split; rename_i h; have := isNum_true h; omega; omega
theorem rank_mid (a : Int) : rank a ≤ 9007199254740991 ∨ rank a = 18446744073709551615 := by unfold rank; split; rename_i h; exact Or.inl (isNum_true h).2; exact Or.inr rfl
theorem ends_yes {t d : Int} (h : isNum t = true) : ends t d = add t d := by unfold ends; rw [if_pos h]
theorem ends_no {t d : Int} (h : isNum t = false) : ends t d = -1 := by unfold ends; rw [h]; rfl
theorem tm_rank (a : Int) : tm a = unrank (rank a) := by
  unfold tm rank unrank
  by_cases h : isNum a = true
  · rw [if_pos h, if_pos h, if_neg (by have := isNum_true h; omega)]
  · rw [if_neg h, if_neg h, if_pos rfl]

theorem mulLeft_lo (a b c : Int) : 0 ≤ mulLeft a b c := by
  unfold mulLeft
  by_cases h : num c = 0 ∨ 9007199254740991 < num a * num b / num c
  · rw [if_pos h]; omega
  · rw [if_neg h]; exact rest_lo a b c (fun e => h (Or.inl e))
theorem tm_lo (a : Int) : -1 ≤ tm a ∧ tm a ≤ 9007199254740991 := by unfold tm; split; rename_i h; have := isNum_true h; omega; omega
theorem tm_noTime {a : Int} (h : isTime a = false) : tm a = -1 := by
  unfold isTime at h
  rw [Bool.or_eq_false_iff] at h
  exact tm_no h.2
theorem tm_time {a : Int} (h : isTime a = true) : tm a = a := by
  unfold isTime at h
  rw [Bool.or_eq_true] at h
  rcases h with h | h
  · obtain rfl : a = -1 := by simpa using h
    exact tm_no rfl
  · exact tm_yes h
def earlierT (x y : Int) : Int := if x = -1 then y else if y = -1 then x else min x y
def laterT (x y : Int) : Int := if x = -1 then -1 else if y = -1 then -1 else max x y
theorem rank_cases (a : Int) : (isNum a = true ∧ 0 ≤ a ∧ a ≤ 9007199254740991 ∧ rank a = a ∧ tm a = a) ∨ (isNum a = false ∧ rank a = 18446744073709551615 ∧ tm a = -1) := by
  rcases h : isNum a with _ | _
  · exact Or.inr ⟨rfl, rank_no h, tm_no h⟩
  · have := isNum_true h
    exact Or.inl ⟨rfl, this.1, this.2, rank_yes h, tm_yes h⟩
theorem earlier_tm (a b : Int) : earlier a b = earlierT (tm a) (tm b) := by
  unfold earlier earlierT unrank
  rcases rank_cases a with ⟨_, a0, a1, ra, ta⟩ | ⟨_, ra, ta⟩ <;> rcases rank_cases b with ⟨_, b0, b1, rb, tb⟩ | ⟨_, rb, tb⟩ <;> rw [ra, rb, ta, tb]
  · rw [if_neg (by omega), if_neg (by omega), if_neg (by omega)]
  · rw [if_neg (by omega), if_neg (by omega), if_pos rfl]; omega
  · rw [if_neg (by omega), if_pos rfl]; omega
  · rfl
theorem later_tm (a b : Int) : later a b = laterT (tm a) (tm b) := by
  unfold later laterT unrank
  rcases rank_cases a with ⟨_, a0, a1, ra, ta⟩ | ⟨_, ra, ta⟩ <;> rcases rank_cases b with ⟨_, b0, b1, rb, tb⟩ | ⟨_, rb, tb⟩ <;> rw [ra, rb, ta, tb]
  · rw [if_neg (by omega), if_neg (by omega), if_neg (by omega)]
  · rw [if_pos (by omega), if_neg (by omega), if_pos rfl]
  · rw [if_pos (by omega), if_pos rfl]
  · rfl

end Go.Proofs.Ytnmekhgilekofaa.Sat
