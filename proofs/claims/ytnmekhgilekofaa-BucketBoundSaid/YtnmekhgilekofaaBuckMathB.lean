/- A bucket, as exact numbers: what a filling gives, twice is once, when there are so many. -/
import Derived.Test.YtnmekhgilekofaaBuckMath
namespace Go.Proofs.Ytnmekhgilekofaa.Sat

theorem divmod_of {P y q r : Int} (hy : 0 < y) (h : P = y * q + r) (r0 : 0 ≤ r) (r1 : r < y) : P / y = q ∧ P % y = r := by
  have e : P = r + y * q := by omega
  rw [e, Int.add_mul_ediv_left _ _ (by omega), Int.add_mul_emod_self_left, Int.ediv_eq_zero_of_lt r0 r1, Int.emod_eq_of_lt r0 r1]
  exact ⟨by omega, rfl⟩

/-- What flows in up to t, in parts of one token; how many tokens there would be. -/
def BS.flow (s : BS) (t x y : Int) : Int := (t - s.t) * x + s.keep x y
def BS.lvl (s : BS) (t x y : Int) : Int := s.n + s.flow t x y / y

theorem BS.flow_lo {s : BS} (h : s.Ok) {t x : Int} (y : Int) (ht : s.t ≤ t) (hx : 0 ≤ x) : 0 ≤ s.flow t x y := by
  have h1 := BS.keep_lo h x y
  have h2 : 0 ≤ (t - s.t) * x := Int.mul_nonneg (by omega) hx
  unfold BS.flow; omega
theorem BS.flow_mono {s : BS} {t u x : Int} (y : Int) (hx : 0 ≤ x) (hu : t ≤ u) : s.flow t x y ≤ s.flow u x y := by
  have h2 : (t - s.t) * x ≤ (u - s.t) * x := Int.mul_le_mul_of_nonneg_right (by omega) hx
  unfold BS.flow; omega
theorem BS.lvl_mono {s : BS} {t u x y : Int} (hx : 0 ≤ x) (hy : 0 < y) (hu : t ≤ u) : s.lvl t x y ≤ s.lvl u x y := by
  have := Int.ediv_le_ediv hy (BS.flow_mono (s := s) y hx hu)
  unfold BS.lvl; omega
theorem BS.lvl_lo {s : BS} (h : s.Ok) {t x y : Int} (ht : s.t ≤ t) (hx : 0 ≤ x) (hy : 0 < y) : s.n ≤ s.lvl t x y := by
  have := Int.ediv_nonneg (BS.flow_lo h y ht hx) (by omega : 0 ≤ y)
  unfold BS.lvl; omega

theorem fill_exact {s : BS} (h : s.Ok) {t x y : Int} (ht : s.t ≤ t) (ht1 : t ≤ 9007199254740991) (hm : may x y = true) :
    s.fill t x y = if s.b ≤ s.lvl t x y then ⟨s.b, s.b, 0, t, x, y⟩ else ⟨s.b, s.lvl t x y, s.flow t x y % y, t, x, y⟩ := by
  obtain ⟨⟨x0, x1⟩, ⟨y0, y1⟩⟩ := may_true hm
  have k0 := BS.keep_lo h x y
  have k1 := BS.keep_hi h (x := x) y0
  have n0 := h.n0; have n1 := h.n1; have b1 := h.b1; have b0 := h.b0; have t0 := h.t0
  have d0 : num (t - s.t) = t - s.t := num_id (by omega) (by omega)
  have e1 : num x = x := num_id x0 (by omega)
  have e2 : num y = y := num_id (by omega) y1
  have p0 : 0 ≤ (t - s.t) * x := Int.mul_nonneg (by omega) x0
  rw [BS.fill_def]
  unfold BS.lvl BS.flow
  obtain ⟨A, hA⟩ : ∃ A, (t - s.t) * x = A := ⟨_, rfl⟩
  rw [hA] at p0 ⊢
  have q0 : 0 ≤ A / y := Int.ediv_nonneg p0 (by omega)
  have key := Int.mul_ediv_add_emod A y
  have l0 : 0 ≤ A % y := Int.emod_nonneg _ (by omega)
  have l1 : A % y < y := Int.emod_lt_of_pos _ (by omega)
  have hmd := mulDiv_of (t - s.t) x y (by omega)
  have hmo := mulDiv_over (t - s.t) x y
  rw [d0, e1, e2, hA] at hmd hmo
  unfold BS.more BS.part BS.sum
  by_cases g : A / y ≤ 9007199254740991
  · obtain ⟨m1, m2⟩ := hmd g
    rw [m1, m2]
    clear hmd hmo m1 m2
    generalize A / y = q at *
    generalize A % y = l at *
    generalize s.keep x y = k at *
    by_cases c : y ≤ l + k
    · obtain ⟨f1, f2⟩ := divmod_of (P := A + k) (y := y) (q := q + 1) (r := l + k - y) (by omega) (by rw [Int.mul_add]; omega) (by omega) (by omega)
      rw [if_pos c, if_pos c, f1, f2]
      by_cases hb : s.b ≤ s.n + (q + 1)
      · rw [if_pos hb, if_pos (by unfold add num; omega)]
      · have e3 : add s.n (add q 1) = s.n + (q + 1) := by unfold add num; omega
        rw [e3, if_neg hb]
    · obtain ⟨f1, f2⟩ := divmod_of (P := A + k) (y := y) (q := q) (r := l + k) (by omega) (by omega) (by omega) (by omega)
      rw [if_neg c, if_neg c, f1, f2]
      by_cases hb : s.b ≤ s.n + q
      · rw [if_pos hb, if_pos (by unfold add num; omega)]
      · have e3 : add s.n q = s.n + q := by unfold add num; omega
        rw [e3, if_neg hb]
  · obtain ⟨m1, m2⟩ := hmo (Or.inr (by omega))
    rw [m1, m2]
    have hk : A / y ≤ (A + s.keep x y) / y := Int.ediv_le_ediv (by omega) (by omega)
    rw [if_pos (by omega : s.b ≤ s.n + (A + s.keep x y) / y), if_neg (by omega : ¬ y ≤ 0 + s.keep x y), if_pos (by unfold add num; omega)]

theorem fill_t {s : BS} (h : s.Ok) {t x y : Int} (ht : s.t ≤ t) (ht1 : t ≤ 9007199254740991) (hm : may x y = true) : (s.fill t x y).t = t := by
  rw [fill_exact h ht ht1 hm]; split <;> rfl
theorem fill_b {s : BS} (h : s.Ok) {t x y : Int} (ht : s.t ≤ t) (ht1 : t ≤ 9007199254740991) (hm : may x y = true) : (s.fill t x y).b = s.b := by
  rw [fill_exact h ht ht1 hm]; split <;> rfl
theorem fill_rate {s : BS} (h : s.Ok) {t x y : Int} (ht : s.t ≤ t) (ht1 : t ≤ 9007199254740991) (hm : may x y = true) : (s.fill t x y).num = x ∧ (s.fill t x y).den = y := by
  rw [fill_exact h ht ht1 hm]; split <;> exact ⟨rfl, rfl⟩
theorem fill_n {s : BS} (h : s.Ok) {t x y : Int} (ht : s.t ≤ t) (ht1 : t ≤ 9007199254740991) (hm : may x y = true) : (s.fill t x y).n = min s.b (s.lvl t x y) := by
  rw [fill_exact h ht ht1 hm]; split <;> dsimp only <;> omega

/-- To fill it twice at one rate is to fill it at once. -/
theorem fill_fill {s : BS} (h : s.Ok) {t u x y : Int} (ht : s.t ≤ t) (hu : t ≤ u) (hu1 : u ≤ 9007199254740991) (hm : may x y = true) : (s.fill t x y).fill u x y = s.fill u x y := by
  obtain ⟨⟨x0, x1⟩, ⟨y0, y1⟩⟩ := may_true hm
  have o := BS.fill_ok h (t := t) (by have := h.t0; omega) (by omega) hm
  have ft := fill_t h ht (by omega) hm
  rw [fill_exact o (by omega) hu1 hm, fill_exact h (by omega) hu1 hm]
  have mono := BS.lvl_mono (s := s) (t := t) (u := u) (x := x) (y := y) x0 (by omega) hu
  have w0 : 0 ≤ (u - t) * x := Int.mul_nonneg (by omega) x0
  have e : s.flow u x y = s.flow t x y + (u - t) * x := by
    unfold BS.flow
    have : u - s.t = (t - s.t) + (u - t) := by omega
    rw [this, Int.add_mul]; omega
  rw [fill_exact h ht (by omega) hm]
  by_cases hb : s.b ≤ s.lvl t x y
  · rw [if_pos hb, if_pos (by omega : s.b ≤ s.lvl u x y)]
    have : BS.lvl ⟨s.b, s.b, 0, t, x, y⟩ u x y = s.b + ((u - t) * x) / y := by
      have k : BS.keep ⟨s.b, s.b, 0, t, x, y⟩ x y = 0 := if_pos ⟨rfl, rfl⟩
      unfold BS.lvl BS.flow; rw [k]; simp
    have q0 : 0 ≤ (u - t) * x / y := Int.ediv_nonneg w0 (by omega)
    rw [if_pos (by rw [this]; dsimp only; omega)]
  · rw [if_neg hb]
    have f : BS.flow ⟨s.b, s.lvl t x y, s.flow t x y % y, t, x, y⟩ u x y = (u - t) * x + s.flow t x y % y := by
      have k : BS.keep ⟨s.b, s.lvl t x y, s.flow t x y % y, t, x, y⟩ x y = s.flow t x y % y := if_pos ⟨rfl, rfl⟩
      show (u - t) * x + BS.keep ⟨s.b, s.lvl t x y, s.flow t x y % y, t, x, y⟩ x y = _
      rw [k]
    obtain ⟨P, hP⟩ : ∃ P, s.flow t x y = P := ⟨_, rfl⟩
    obtain ⟨W, hW⟩ : ∃ W, (u - t) * x = W := ⟨_, rfl⟩
    rw [hP] at f e
    rw [hW] at f e w0
    have key := Int.mul_ediv_add_emod P y
    have e4 : P + W = (W + P % y) + y * (P / y) := by omega
    have d1 : (P + W) / y = (W + P % y) / y + P / y := by rw [e4, Int.add_mul_ediv_left _ _ (by omega)]
    have d2 : (P + W) % y = (W + P % y) % y := by rw [e4, Int.add_mul_emod_self_left]
    have g : BS.lvl ⟨s.b, s.lvl t x y, s.flow t x y % y, t, x, y⟩ u x y = s.lvl u x y := by
      show s.lvl t x y + (BS.flow ⟨s.b, s.lvl t x y, s.flow t x y % y, t, x, y⟩ u x y) / y = s.lvl u x y
      unfold BS.lvl
      rw [hP, e, d1]
      have : BS.flow ⟨s.b, s.n + P / y, P % y, t, x, y⟩ u x y = W + P % y := by
        have f' := f; unfold BS.lvl at f'; rw [hP] at f'; exact f'
      rw [this]; omega
    rw [g, hP] at *
    rw [f, e, ← d2]
/-- Filled anew at its own time. -/
theorem fill_again {s : BS} (h : s.Ok) {t x y : Int} (ht : s.t ≤ t) (ht1 : t ≤ 9007199254740991) (hm : may x y = true) : (s.fill t x y).fill t x y = s.fill t x y := fill_fill h ht (Int.le_refl _) ht1 hm
/-- Filled at its own time, at another rate. -/
theorem fill_other {s : BS} (h : s.Ok) {x y : Int} (hm : may x y = true) (hne : ¬ (x = s.num ∧ y = s.den)) : s.fill s.t x y = ⟨s.b, s.n, 0, s.t, x, y⟩ := by
  obtain ⟨⟨x0, x1⟩, ⟨y0, y1⟩⟩ := may_true hm
  rw [fill_exact h (Int.le_refl _) h.t1 hm]
  have e : s.flow s.t x y = 0 := by unfold BS.flow BS.keep; rw [if_neg hne, Int.sub_self]; simp
  have e2 : s.lvl s.t x y = s.n := by unfold BS.lvl; rw [e]; simp
  have n1 := h.n1
  rw [e2, e]
  by_cases hb : s.b ≤ s.n
  · rw [if_pos hb]
    have : s.b = s.n := by omega
    rw [this]
  · rw [if_neg hb]; simp

theorem has_iff {s : BS} (h : s.Ok) {t x y k : Int} (ht : s.t ≤ t) (ht1 : t ≤ 9007199254740991) (hm : may x y = true) (hk : k ≤ s.b) : k ≤ (s.fill t x y).n ↔ k ≤ s.lvl t x y := by
  rw [fill_n h ht ht1 hm]; omega
theorem lvl_iff (s : BS) {t x y k : Int} (hx : 0 < x) (hy : 0 < y) : k ≤ s.lvl t x y ↔ s.need k x y / x ≤ t - s.t := by
  unfold BS.lvl BS.need
  have h1 : k ≤ s.n + s.flow t x y / y ↔ k - s.n ≤ s.flow t x y / y := by omega
  rw [h1, Int.le_ediv_iff_mul_le hy]
  have h2 : ∀ z : Int, z / x ≤ t - s.t ↔ z / x < t - s.t + 1 := fun z => by omega
  rw [h2, Int.ediv_lt_iff_lt_mul hx, Int.add_mul, Int.one_mul]
  unfold BS.flow
  omega
theorem need_lo {s : BS} (h : s.Ok) {k x y : Int} (hk : s.n < k) (hx : 0 < x) (hy : 0 < y) : 0 ≤ s.need k x y / x := by
  have k1 := BS.keep_hi h (x := x) (y := y) (by omega)
  have := Int.mul_le_mul_of_nonneg_right (show (1 : Int) ≤ k - s.n by omega) (show (0 : Int) ≤ y by omega)
  apply Int.ediv_nonneg _ (by omega)
  unfold BS.need; omega

/-- When tells the first time at which there are so many. -/
theorem when_spec {s : BS} (h : s.Ok) {k x y : Int} (h0 : 0 ≤ k) (h1 : k ≤ s.b) (hm : may x y = true) :
    (s.when k x y = -1 ∧ s.n < k ∧ ∀ t, s.t ≤ t → t ≤ 9007199254740991 → (s.fill t x y).n < k) ∨
    (s.t ≤ s.when k x y ∧ s.when k x y ≤ 9007199254740991 ∧ ∀ t, s.t ≤ t → t ≤ 9007199254740991 → (k ≤ (s.fill t x y).n ↔ s.when k x y ≤ t)) := by
  obtain ⟨⟨x0, x1⟩, ⟨y0, y1⟩⟩ := may_true hm
  by_cases g : k ≤ s.n
  · right
    rw [BS.when_now h0 h1 hm g]
    refine ⟨Int.le_refl _, h.t1, fun t t0 t1 => ⟨fun _ => t0, fun _ => ?_⟩⟩
    rw [has_iff h t0 t1 hm h1]
    have := BS.lvl_lo h t0 x0 (by omega : 0 < y)
    omega
  · by_cases hx : x = 0
    · left
      rw [hx, BS.when_zero (by omega)]
      refine ⟨rfl, by omega, fun t t0 t1 => ?_⟩
      have hf : s.flow t 0 y / y = 0 := by
        unfold BS.flow
        rw [Int.mul_zero, Int.zero_add]
        exact Int.ediv_eq_zero_of_lt (BS.keep_lo h 0 y) (BS.keep_hi h (by omega))
      rw [hx] at hm
      rw [fill_n h t0 t1 hm]
      unfold BS.lvl; rw [hf]; omega
    · have hn := need_lo h (k := k) (x := x) (y := y) (by omega) (by omega) (by omega)
      rw [BS.when_at h0 h1 hm (by omega) hx]
      by_cases hd : s.need k x y / x ≤ 9007199254740991 - s.t
      · right
        rw [if_pos hd]
        refine ⟨by omega, by omega, fun t t0 t1 => ?_⟩
        rw [has_iff h t0 t1 hm h1, lvl_iff s (by omega) (by omega)]
        omega
      · left
        rw [if_neg hd]
        refine ⟨rfl, by omega, fun t t0 t1 => ?_⟩
        have := (has_iff h t0 t1 hm h1).trans (lvl_iff s (t := t) (k := k) (x := x) (y := y) (by omega) (by omega))
        omega
theorem when_none {s : BS} {k x y : Int} (h : ¬ ((0 ≤ k ∧ k ≤ s.b) ∧ may x y = true)) : s.when k x y = -1 := if_neg h
/-- What came in is at most what the rate lets through, upwards. -/
theorem fill_gain {s : BS} (h : s.Ok) {t x y : Int} (ht : s.t ≤ t) (ht1 : t ≤ 9007199254740991) (hm : may x y = true) : (s.fill t x y).n ≤ s.n + ((t - s.t) * x + y - 1) / y := by
  obtain ⟨_, ⟨y0, y1⟩⟩ := may_true hm
  have k1 := BS.keep_hi h (x := x) y0
  have : s.flow t x y / y ≤ ((t - s.t) * x + y - 1) / y := Int.ediv_le_ediv (by omega) (by unfold BS.flow; omega)
  rw [fill_n h ht ht1 hm]; unfold BS.lvl; omega
theorem fill_more {s : BS} (h : s.Ok) {t x y : Int} (ht : s.t ≤ t) (ht1 : t ≤ 9007199254740991) (hm : may x y = true) : s.n ≤ (s.fill t x y).n := by
  obtain ⟨⟨x0, x1⟩, ⟨y0, y1⟩⟩ := may_true hm
  have := BS.lvl_lo h ht x0 (by omega : 0 < y)
  have := h.n1
  rw [fill_n h ht ht1 hm]; omega
end Go.Proofs.Ytnmekhgilekofaa.Sat
