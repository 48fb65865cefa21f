/- A bucket, as numbers. -/
import Derived.Test.YtnmekhgilekofaaRiseMath
namespace Go.Proofs.Ytnmekhgilekofaa.Sat
theorem mulLeft_hi (a b c : Int) : mulLeft a b c ≤ 9007199254740991 := by
  unfold mulLeft; split
  · omega
  · rename_i h
    have h1 := rest_hi a b c (by omega); have := num_hi c; omega
/-- What a bucket holds. -/
structure BS where
  b : Int
  n : Int
  r : Int
  t : Int
  num : Int
  den : Int
deriving DecidableEq
/-- May a rate be? -/
def may (x y : Int) : Bool := decide ((0 ≤ x ∧ x ≤ 8796093022208) ∧ (1 ≤ y ∧ y ≤ 9007199254740991))
theorem may_true {x y : Int} (h : may x y = true) : (0 ≤ x ∧ x ≤ 8796093022208) ∧ (1 ≤ y ∧ y ≤ 9007199254740991) := of_decide_eq_true h
theorem may_yes {x y : Int} (h0 : 0 ≤ x) (h1 : x ≤ 8796093022208) (h2 : 1 ≤ y) (h3 : y ≤ 9007199254740991) : may x y = true := decide_eq_true ⟨⟨h0, h1⟩, ⟨h2, h3⟩⟩
structure BS.Ok (s : BS) : Prop where
  b0 : 1 ≤ s.b
  b1 : s.b ≤ 1073741824
  n0 : 0 ≤ s.n
  n1 : s.n ≤ s.b
  t0 : 0 ≤ s.t
  t1 : s.t ≤ 9007199254740991
  r0 : 0 ≤ s.r
  r1 : s.r ≤ 9007199254740991
  r2 : s.r < s.den ∨ s.r = 0
  x0 : 0 ≤ s.num
  x1 : s.num ≤ 8796093022208
  y0 : 0 ≤ s.den
  y1 : s.den ≤ 9007199254740991
def BS.new (b t : Int) : BS := ⟨b, b, 0, t, 0, 0⟩
def BS.newE (b t : Int) : Int := if (1 ≤ b ∧ b ≤ 1073741824) ∧ isNum t = true then 0 else 2
def BS.keep (s : BS) (x y : Int) : Int := if x = s.num ∧ y = s.den then s.r else 0
def BS.sum (s : BS) (t x y : Int) : Int := mulLeft (t - s.t) x y + s.keep x y
def BS.more (s : BS) (t x y : Int) : Int := if y ≤ s.sum t x y then add (mulDiv (t - s.t) x y) 1 else mulDiv (t - s.t) x y
def BS.part (s : BS) (t x y : Int) : Int := if y ≤ s.sum t x y then s.sum t x y - y else s.sum t x y
def BS.turn (s : BS) (x y : Int) : BS := ⟨s.b, s.n, s.keep x y, s.t, x, y⟩
def BS.pass (s : BS) (t x y : Int) : BS := ⟨s.b, add s.n (s.more t x y), s.part t x y, t, s.num, s.den⟩
def BS.full (s : BS) : BS := if s.b ≤ s.n then ⟨s.b, s.b, 0, s.t, s.num, s.den⟩ else s
def BS.fill (s : BS) (t x y : Int) : BS := ((s.turn x y).pass t x y).full
def BS.fillE (s : BS) (t x y : Int) : Int := if isNum t = true ∧ may x y = true then (if t < s.t then 210 else 0) else 2
def BS.filled (s : BS) (t x y : Int) : BS := if s.fillE t x y = 0 then s.fill t x y else s
def BS.takeE (s : BS) (k : Int) : Int := if k < 0 then 2 else if s.n < k then 5 else 0
def BS.taken (s : BS) (k : Int) : BS := if s.takeE k = 0 then ⟨s.b, s.n - k, s.r, s.t, s.num, s.den⟩ else s

def BS.need (s : BS) (k x y : Int) : Int := (k - s.n) * y - s.keep x y + x - 1
/-- When there are so many. -/
def BS.when (s : BS) (k x y : Int) : Int :=
  if (0 ≤ k ∧ k ≤ s.b) ∧ may x y = true then (if k ≤ s.n then s.t else if x = 0 then -1 else if s.need k x y / x ≤ 9007199254740991 - s.t then s.t + s.need k x y / x else -1) else -1
theorem BS.when_neg {s : BS} {k x y : Int} (h : k < 0) : s.when k x y = -1 := if_neg (fun g => by omega)
theorem BS.when_big {s : BS} {k x y : Int} (h : s.b < k) : s.when k x y = -1 := if_neg (fun g => by omega)
theorem BS.when_rate {s : BS} {k x y : Int} (h : may x y = false) : s.when k x y = -1 := if_neg (fun g => by rw [h] at g; exact absurd g.2 (by simp))
theorem BS.when_now {s : BS} {k x y : Int} (h0 : 0 ≤ k) (h1 : k ≤ s.b) (h2 : may x y = true) (h3 : k ≤ s.n) : s.when k x y = s.t := by
  unfold BS.when; rw [if_pos ⟨⟨h0, h1⟩, h2⟩, if_pos h3]
theorem BS.when_zero {s : BS} {k y : Int} (h3 : s.n < k) : s.when k 0 y = -1 := by
  unfold BS.when; split
  · rw [if_neg (by omega), if_pos rfl]
  · rfl
theorem BS.when_at {s : BS} {k x y : Int} (h0 : 0 ≤ k) (h1 : k ≤ s.b) (h2 : may x y = true) (h3 : s.n < k) (h4 : x ≠ 0) : s.when k x y = if s.need k x y / x ≤ 9007199254740991 - s.t then s.t + s.need k x y / x else -1 := by
  unfold BS.when; rw [if_pos ⟨⟨h0, h1⟩, h2⟩, if_neg (by omega), if_neg h4]
/-- The numbers in two words. -/
theorem need_words {P R x H0 L0 br L1 cr L2 : Int} (hP : H0 * 18446744073709551616 + L0 = P) (h1 : L1 = L0 - R + br * 18446744073709551616) (h2 : L2 = L1 + (x - 1) - cr * 18446744073709551616) :
    (H0 - br + cr) * 18446744073709551616 + L2 = P - R + x - 1 := by omega

theorem BS.turn_keep (s : BS) (x y : Int) : (s.turn x y).keep x y = s.keep x y := if_pos ⟨rfl, rfl⟩
theorem BS.keep_lo {s : BS} (h : s.Ok) (x y : Int) : 0 ≤ s.keep x y := by unfold BS.keep; split; exact h.r0; omega
theorem BS.keep_hi {s : BS} (h : s.Ok) {x y : Int} (hy : 1 ≤ y) : s.keep x y < y := by
  unfold BS.keep; split
  · rename_i g; have := h.r2; omega
  · omega
theorem left_lt (a b c : Int) (h0 : 1 ≤ c) (h1 : c ≤ 9007199254740991) : mulLeft a b c < c := by
  unfold mulLeft
  have e : Sat.num c = c := num_id (by omega) h1
  split
  · omega
  · have := rest_hi a b c (by omega); omega
theorem BS.sum_lo {s : BS} (h : s.Ok) (t x y : Int) : 0 ≤ s.sum t x y := by
  have := BS.keep_lo h x y; have := mulLeft_lo (t - s.t) x y; unfold BS.sum; omega
theorem BS.sum_hi {s : BS} (h : s.Ok) (t : Int) {x y : Int} (h0 : 1 ≤ y) (h1 : y ≤ 9007199254740991) : s.sum t x y < 2 * y := by
  have := BS.keep_hi h (x := x) h0; have := left_lt (t - s.t) x y h0 h1; unfold BS.sum; omega
theorem BS.part_lo {s : BS} (h : s.Ok) (t x y : Int) : 0 ≤ s.part t x y := by
  have := BS.sum_lo h t x y; unfold BS.part; split <;> omega
theorem BS.part_hi {s : BS} (h : s.Ok) (t : Int) {x y : Int} (h0 : 1 ≤ y) (h1 : y ≤ 9007199254740991) : s.part t x y < y := by
  have := BS.sum_hi h t (x := x) h0 h1; unfold BS.part; split <;> omega
/-- The whole of it at once. -/
theorem BS.fill_def (s : BS) (t x y : Int) : s.fill t x y = if s.b ≤ add s.n (s.more t x y) then ⟨s.b, s.b, 0, t, x, y⟩ else ⟨s.b, add s.n (s.more t x y), s.part t x y, t, x, y⟩ := by
  have e1 : (s.turn x y).sum t x y = s.sum t x y := by
    show mulLeft (t - s.t) x y + (s.turn x y).keep x y = _
    rw [BS.turn_keep]; rfl
  have e2 : (s.turn x y).more t x y = s.more t x y := by unfold BS.more; rw [e1]; rfl
  have e3 : (s.turn x y).part t x y = s.part t x y := by unfold BS.part; rw [e1]
  have e4 : (s.turn x y).pass t x y = ⟨s.b, add s.n (s.more t x y), s.part t x y, t, x, y⟩ := by
    show BS.mk s.b (add s.n ((s.turn x y).more t x y)) ((s.turn x y).part t x y) t x y = _
    rw [e2, e3]
  unfold BS.fill; rw [e4]; rfl
theorem add_n_lo (a b : Int) : 0 ≤ add a b := num_lo _
theorem BS.fill_ok {s : BS} (h : s.Ok) {t x y : Int} (ht0 : 0 ≤ t) (ht1 : t ≤ 9007199254740991) (hm : may x y = true) : (s.fill t x y).Ok := by
  obtain ⟨⟨x0, x1⟩, ⟨y0, y1⟩⟩ := may_true hm
  have p0 := BS.part_lo h t x y; have p1 := BS.part_hi h t (x := x) y0 y1
  have a0 := add_n_lo s.n (s.more t x y)
  have b0 := h.b0; have b1 := h.b1
  rw [BS.fill_def]
  split
  · exact ⟨b0, b1, by show 0 ≤ s.b; omega, Int.le_refl _, ht0, ht1, Int.le_refl _, by show (0 : Int) ≤ _; omega, Or.inr rfl, x0, x1, by show 0 ≤ y; omega, y1⟩
  · exact ⟨b0, b1, a0, by show add s.n (s.more t x y) ≤ s.b; omega, ht0, ht1, p0, by show s.part t x y ≤ _; omega, Or.inl p1, x0, x1, by show 0 ≤ y; omega, y1⟩
theorem BS.fillE_zero {s : BS} {t x y : Int} (h : s.fillE t x y = 0) : isNum t = true ∧ may x y = true ∧ s.t ≤ t := by
  unfold BS.fillE at h
  by_cases g : isNum t = true ∧ may x y = true
  · rw [if_pos g] at h
    by_cases k : t < s.t
    · rw [if_pos k] at h; omega
    · exact ⟨g.1, g.2, by omega⟩
  · rw [if_neg g] at h; omega
theorem BS.fillE_yes {s : BS} {t x y : Int} (h0 : isNum t = true) (h1 : may x y = true) (h2 : s.t ≤ t) : s.fillE t x y = 0 := by
  unfold BS.fillE; rw [if_pos ⟨h0, h1⟩, if_neg (by omega)]
theorem BS.fillE_back {s : BS} {t x y : Int} (h0 : isNum t = true) (h1 : may x y = true) (h2 : t < s.t) : s.fillE t x y = 210 := by
  unfold BS.fillE; rw [if_pos ⟨h0, h1⟩, if_pos h2]
theorem BS.fillE_time {s : BS} {t x y : Int} (h0 : isNum t = false) : s.fillE t x y = 2 := by
  unfold BS.fillE; rw [if_neg (by rw [h0]; simp)]
theorem BS.fillE_rate {s : BS} {t x y : Int} (h0 : may x y = false) : s.fillE t x y = 2 := by
  unfold BS.fillE; rw [if_neg (by rw [h0]; simp)]
theorem BS.takeE_zero {s : BS} {k : Int} (h : s.takeE k = 0) : 0 ≤ k ∧ k ≤ s.n := by
  unfold BS.takeE at h
  by_cases g : k < 0
  · rw [if_pos g] at h; omega
  · rw [if_neg g] at h
    by_cases g2 : s.n < k
    · rw [if_pos g2] at h; omega
    · omega
theorem BS.takeE_yes {s : BS} {k : Int} (h0 : 0 ≤ k) (h1 : k ≤ s.n) : s.takeE k = 0 := by
  unfold BS.takeE; rw [if_neg (by omega), if_neg (by omega)]
theorem BS.takeE_neg {s : BS} {k : Int} (h : k < 0) : s.takeE k = 2 := by unfold BS.takeE; rw [if_pos h]
theorem BS.takeE_big {s : BS} {k : Int} (h : s.n < k) (h0 : 0 ≤ k) : s.takeE k = 5 := by unfold BS.takeE; rw [if_neg (by omega), if_pos h]
theorem BS.filled_yes {s : BS} {t x y : Int} (h : s.fillE t x y = 0) : s.filled t x y = s.fill t x y := if_pos h
theorem BS.filled_no {s : BS} {t x y : Int} (h : s.fillE t x y ≠ 0) : s.filled t x y = s := if_neg h
theorem BS.taken_yes {s : BS} {k : Int} (h : s.takeE k = 0) : s.taken k = ⟨s.b, s.n - k, s.r, s.t, s.num, s.den⟩ := if_pos h
theorem BS.taken_no {s : BS} {k : Int} (h : s.takeE k ≠ 0) : s.taken k = s := if_neg h
theorem BS.filled_ok {s : BS} (h : s.Ok) (t x y : Int) : (s.filled t x y).Ok := by
  by_cases g : s.fillE t x y = 0
  · obtain ⟨g0, g1, _⟩ := BS.fillE_zero g
    rw [BS.filled_yes g]
    exact BS.fill_ok h (isNum_true g0).1 (isNum_true g0).2 g1
  · rw [BS.filled_no g]; exact h
theorem BS.taken_ok {s : BS} (h : s.Ok) (k : Int) : (s.taken k).Ok := by
  have n0 := h.n0; have n1 := h.n1
  by_cases g : s.takeE k = 0
  · obtain ⟨g0, g1⟩ := BS.takeE_zero g
    rw [BS.taken_yes g]
    exact ⟨h.b0, h.b1, by show 0 ≤ s.n - k; omega, by show s.n - k ≤ s.b; omega, h.t0, h.t1, h.r0, h.r1, h.r2, h.x0, h.x1, h.y0, h.y1⟩
  · rw [BS.taken_no g]; exact h
theorem BS.new_ok {b t : Int} (h : BS.newE b t = 0) : (BS.new b t).Ok := by
  unfold BS.newE at h
  by_cases g : (1 ≤ b ∧ b ≤ 1073741824) ∧ isNum t = true
  · obtain ⟨⟨g0, g1⟩, g2⟩ := g
    exact ⟨g0, g1, by show 0 ≤ b; omega, Int.le_refl _, (isNum_true g2).1, (isNum_true g2).2, Int.le_refl _, by show (0 : Int) ≤ _; omega, Or.inr rfl, Int.le_refl _, by show (0 : Int) ≤ _; omega, Int.le_refl _, by show (0 : Int) ≤ _; omega⟩
  · rw [if_neg g] at h; omega
end Go.Proofs.Ytnmekhgilekofaa.Sat
