/- Plain numbers: the long division of two words by one, digit by digit (a digit is 32 bits). No program. -/
import Derived.RowKit3
import Derived.Lib.BitFns
import Derived.Laws.Bits64
import Derived.Laws.MathBits
import Derived.Laws.BitsLemmas
namespace Go.Proofs.Ytnmekhgilekofaa.Dv

/-- What holds at the head of each round of the search of a digit: u the part above, y1 and y0 the digits of the divisor, u1 the next digit, q the guess, r what it leaves of u. -/
def Inv (u y1 y0 u1 q r : Int) : Prop :=
  u = q * y1 + r ∧ 0 ≤ r ∧ r < 4294967296 ∧ (u * 4294967296 + u1) / (y1 * 4294967296 + y0) ≤ q ∧ q ≤ 4294967297 ∧ 0 ≤ q

/-- What the digits are. -/
structure Dig (u y1 y0 u1 : Int) : Prop where
  u0 : 0 ≤ u
  uy : u < y1 * 4294967296 + y0
  y1l : 2147483648 ≤ y1
  y1h : y1 < 4294967296
  y0l : 0 ≤ y0
  y0h : y0 < 4294967296
  u1l : 0 ≤ u1
  u1h : u1 < 4294967296

theorem Dig.ypos {u y1 y0 u1 : Int} (d : Dig u y1 y0 u1) : 0 < y1 * 4294967296 + y0 := by have := d.y1l; have := d.y0l; omega

theorem q_nonneg {u y1 y0 u1 : Int} (d : Dig u y1 y0 u1) : 0 ≤ (u * 4294967296 + u1) / (y1 * 4294967296 + y0) :=
  Int.ediv_nonneg (by have := d.u0; have := d.u1l; omega) (by have := d.ypos; omega)

theorem q_lt {u y1 y0 u1 : Int} (d : Dig u y1 y0 u1) : (u * 4294967296 + u1) / (y1 * 4294967296 + y0) < 4294967296 := by
  apply Int.ediv_lt_of_lt_mul d.ypos
  have := d.uy; have := d.u1h
  have e : 4294967296 * (y1 * 4294967296 + y0) = (y1 * 4294967296 + y0) * 4294967296 := Int.mul_comm _ _
  rw [e]; generalize y1 * 4294967296 + y0 = Y at *
  omega

theorem inv_start {u y1 y0 u1 : Int} (d : Dig u y1 y0 u1) : Inv u y1 y0 u1 (u / y1) (u - u / y1 * y1) := by
  have h1 : u = u / y1 * y1 + u % y1 := by rw [Int.mul_comm]; exact (Int.mul_ediv_add_emod u y1).symm
  have h2 : 0 ≤ u % y1 := Int.emod_nonneg _ (by have := d.y1l; omega)
  have h3 : u % y1 < y1 := Int.emod_lt_of_pos _ (by have := d.y1l; omega)
  have h4 := d.y1h; have h5 := d.y1l; have h6 := d.uy; have h7 := d.y0h; have h8 := d.u0
  have hq0 : 0 ≤ u / y1 := Int.ediv_nonneg h8 (by omega)
  refine ⟨by omega, by omega, by omega, ?_, ?_, hq0⟩
  · -- the true digit is at most the guess
    have hle : u * 4294967296 + u1 < (u / y1 + 1) * (y1 * 4294967296 + y0) := by
      have e : (u / y1 + 1) * (y1 * 4294967296 + y0) = (u / y1 * y1 + y1) * 4294967296 + (u / y1 + 1) * y0 := by grind
      have g : 0 ≤ (u / y1 + 1) * y0 := Int.mul_nonneg (by omega) d.y0l
      rw [e]
      generalize u / y1 * y1 = a at *
      generalize (u / y1 + 1) * y0 = b at *
      have := d.u1h
      omega
    have := Int.ediv_lt_of_lt_mul d.ypos hle
    omega
  · -- the guess is not much too great
    have hlt : u < 4294967298 * y1 := by omega
    have := Int.ediv_lt_of_lt_mul (by omega) hlt
    omega

theorem inv_prod {u y1 y0 u1 q r : Int} (d : Dig u y1 y0 u1) (h : Inv u y1 y0 u1 q r) : 0 ≤ q * y0 ∧ q * y0 ≤ 18446744073709551615 := by
  obtain ⟨_, _, _, _, hq, hq0⟩ := h
  have a := Int.mul_nonneg hq0 d.y0l
  have b : q * y0 ≤ 4294967297 * y0 := Int.mul_le_mul_of_nonneg_right hq d.y0l
  have := d.y0h
  omega

theorem expand (q y1 y0 : Int) : q * (y1 * 4294967296 + y0) = q * y1 * 4294967296 + q * y0 := by grind

theorem inv_exit {u y1 y0 u1 q r : Int} (d : Dig u y1 y0 u1) (h : Inv u y1 y0 u1 q r) (hc : q * y0 ≤ 4294967296 * r + u1) :
    q = (u * 4294967296 + u1) / (y1 * 4294967296 + y0) := by
  obtain ⟨hu, _, _, hle, _, _⟩ := h
  have key : q * (y1 * 4294967296 + y0) ≤ u * 4294967296 + u1 := by
    rw [expand]
    generalize q * y1 = a at *
    generalize q * y0 = b at *
    omega
  have := Int.le_ediv_of_mul_le d.ypos key
  omega

/-- A round takes one away. -/
theorem inv_pos {u y1 y0 u1 q r : Int} (d : Dig u y1 y0 u1) (h : Inv u y1 y0 u1 q r) (hc : 4294967296 ≤ q ∨ 4294967296 * r + u1 < q * y0) :
    1 ≤ q ∧ (u * 4294967296 + u1) / (y1 * 4294967296 + y0) ≤ q - 1 ∧ u = (q - 1) * y1 + (r + y1) := by
  obtain ⟨hu, hr, _, hle, hq, hq0⟩ := h
  have hu' : u = (q - 1) * y1 + (r + y1) := by rw [hu]; grind
  have h2 : (u * 4294967296 + u1) / (y1 * 4294967296 + y0) ≤ q - 1 := by
    rcases hc with hc | hc
    · have := q_lt d; omega
    · have key : u * 4294967296 + u1 < q * (y1 * 4294967296 + y0) := by
        rw [expand]
        clear hu'
        generalize q * y1 = a at *
        generalize q * y0 = b at *
        omega
      have := Int.ediv_lt_of_lt_mul d.ypos key
      omega
  have := q_nonneg d
  exact ⟨by omega, h2, hu'⟩

theorem inv_step {u y1 y0 u1 q r : Int} (d : Dig u y1 y0 u1) (h : Inv u y1 y0 u1 q r) (hc : 4294967296 ≤ q ∨ 4294967296 * r + u1 < q * y0)
    (hr : r + y1 < 4294967296) : Inv u y1 y0 u1 (q - 1) (r + y1) := by
  obtain ⟨a, b, c⟩ := inv_pos d h hc
  obtain ⟨_, hr0, _, _, hq, _⟩ := h
  exact ⟨c, by have := d.y1l; omega, hr, b, by omega, by omega⟩

theorem inv_break {u y1 y0 u1 q r : Int} (d : Dig u y1 y0 u1) (h : Inv u y1 y0 u1 q r) (hc : 4294967296 ≤ q ∨ 4294967296 * r + u1 < q * y0)
    (hr : 4294967296 ≤ r + y1) : q - 1 = (u * 4294967296 + u1) / (y1 * 4294967296 + y0) := by
  obtain ⟨a, b, c⟩ := inv_pos d h hc
  obtain ⟨_, hr0, _, _, hq, _⟩ := h
  have key : (q - 1) * (y1 * 4294967296 + y0) ≤ u * 4294967296 + u1 := by
    rw [expand]
    have g : (q - 1) * y0 ≤ 4294967296 * y0 := Int.mul_le_mul_of_nonneg_right (by omega) d.y0l
    have := d.y0h; have := d.u1l
    generalize (q - 1) * y1 = a1 at *
    generalize (q - 1) * y0 = b1 at *
    omega
  have := Int.le_ediv_of_mul_le d.ypos key
  omega

/-- What is left behind a digit. -/
theorem left_digit (n Y q : Int) (hq : q = n / Y) : n - q * Y = n % Y := by
  have := Int.mul_ediv_add_emod n Y
  have e : q * Y = Y * q := Int.mul_comm _ _
  rw [e, hq]; omega

/-- The two digits together. -/
theorem both (n y p q1 r1 q0 r0 u u1 u0 : Int) (hp : 0 < p) (hy : 0 < y)
    (hn : n * p = u * 18446744073709551616 + u1 * 4294967296 + u0)
    (h1 : q1 = (u * 4294967296 + u1) / (y * p)) (g1 : r1 = (u * 4294967296 + u1) % (y * p))
    (h0 : q0 = (r1 * 4294967296 + u0) / (y * p)) (g0 : r0 = (r1 * 4294967296 + u0) % (y * p)) :
    q1 * 4294967296 + q0 = n / y ∧ r0 / p = n % y := by
  have hyp : 0 < y * p := Int.mul_pos hy hp
  have e1 := Int.mul_ediv_add_emod (u * 4294967296 + u1) (y * p)
  have e0 := Int.mul_ediv_add_emod (r1 * 4294967296 + u0) (y * p)
  have r0l : 0 ≤ r0 := by rw [g0]; exact Int.emod_nonneg _ (by omega)
  have r0h : r0 < y * p := by rw [g0]; exact Int.emod_lt_of_pos _ hyp
  rw [← h1, ← g1] at e1
  rw [← h0, ← g0] at e0
  have hsum : n * p = (q1 * 4294967296 + q0) * (y * p) + r0 := by
    rw [hn]
    have : (q1 * 4294967296 + q0) * (y * p) = (y * p * q1) * 4294967296 + y * p * q0 := by grind
    rw [this]
    generalize y * p * q1 = a at *
    generalize y * p * q0 = b at *
    omega
  have hq : q1 * 4294967296 + q0 = n / y := by
    have a1 : n / y = (n * p) / (y * p) := (Int.mul_ediv_mul_of_pos_left n y hp).symm
    rw [a1, hsum]
    rw [Int.add_comm _ r0, Int.add_mul_ediv_right _ _ (by omega), Int.ediv_eq_zero_of_lt r0l r0h]; omega
  refine ⟨hq, ?_⟩
  have hm : n % y = n - y * (n / y) := by have := Int.mul_ediv_add_emod n y; omega
  have hr : r0 = (n % y) * p := by
    rw [hm, ← hq, Int.sub_mul, hsum]
    have : y * (q1 * 4294967296 + q0) * p = (q1 * 4294967296 + q0) * (y * p) := by grind
    rw [this]; omega
  rw [hr, Int.mul_ediv_cancel _ (by omega)]

theorem bitLen_log (x : Nat) (h0 : x ≠ 0) (h : x < 2 ^ 64) : Go.Lib.bitLen x = x.log2 + 1 := by
  have h1 := Nat.log2_self_le h0
  have h2 : x < 2 ^ (x.log2 + 1) := Nat.lt_log2_self
  have h3 : x / 2 ^ x.log2 = 1 := by
    have a : 1 ≤ x / 2 ^ x.log2 := (Nat.le_div_iff_mul_le (Nat.two_pow_pos _)).2 (by omega)
    have b : x / 2 ^ x.log2 < 2 := (Nat.div_lt_iff_lt_mul (Nat.two_pow_pos _)).2 (by rw [Nat.pow_succ] at h2; omega)
    omega
  rw [Go.Lib.bitLen_shift _ x h1 h, h3]
  rfl

/-- The shift that brings the divisor's first bit to the front. -/
theorem norm (y : Int) (h0 : 1 ≤ y) (h1 : y ≤ 18446744073709551615) :
    ∃ s : Nat, s ≤ 63 ∧ (64 - (Go.Lib.bitLen y.toNat : Int)) = s ∧ 9223372036854775808 ≤ y * 2 ^ s ∧ y * 2 ^ s ≤ 18446744073709551615 := by
  obtain ⟨n, rfl⟩ := Int.eq_ofNat_of_zero_le (by omega : 0 ≤ y)
  have hn0 : n ≠ 0 := by omega
  have hn1 : n < 2 ^ 64 := by omega
  have hl : n.log2 ≤ 63 := by have := (Nat.log2_lt hn0).2 hn1; omega
  have g1 := Nat.log2_self_le hn0
  have g2 : n < 2 ^ (n.log2 + 1) := Nat.lt_log2_self
  have a : 2 ^ n.log2 * 2 ^ (63 - n.log2) = 2 ^ 63 := by rw [← Nat.pow_add]; congr 1; omega
  have b : 2 ^ (n.log2 + 1) * 2 ^ (63 - n.log2) = 2 ^ 64 := by rw [← Nat.pow_add]; congr 1; omega
  have a' : 2 ^ n.log2 * 2 ^ (63 - n.log2) ≤ n * 2 ^ (63 - n.log2) := Nat.mul_le_mul_right _ g1
  have b' : n * 2 ^ (63 - n.log2) < 2 ^ (n.log2 + 1) * 2 ^ (63 - n.log2) := Nat.mul_lt_mul_of_pos_right g2 (Nat.two_pow_pos _)
  have e : ((n * 2 ^ (63 - n.log2) : Nat) : Int) = (n : Int) * 2 ^ (63 - n.log2) := by simp
  refine ⟨63 - n.log2, by omega, ?_, ?_, ?_⟩
  · rw [Int.toNat_natCast, bitLen_log n hn0 hn1]; omega
  · rw [← e]; omega
  · rw [← e]; omega

theorem and32 (l : Int) (h0 : 0 ≤ l) (h1 : l ≤ 18446744073709551615) : bits .and .u64 l 4294967295 = l % 4294967296 := and_low32 l h0 (by omega)

/-- All that Div64 lays before its first loop. -/
theorem setup (hi lo y : Int) (s : Nat) (s63 : s ≤ 63) (h0 : 1 ≤ hi) (h1 : hi < y) (l0 : 0 ≤ lo) (l1 : lo ≤ 18446744073709551615)
    (y63 : 9223372036854775808 ≤ y * 2 ^ s) (y64 : y * 2 ^ s ≤ 18446744073709551615) :
    ∃ Y y1 y0 u l u1 u0 : Int, y * 2 ^ s = Y ∧ Y / 4294967296 = y1 ∧ bits .and .u64 Y 4294967295 = y0 ∧ bits .or .u64 (IntKind.u64.wrap (hi * 2 ^ s)) (lo / 2 ^ (64 - s)) = u ∧
      IntKind.u64.wrap (lo * 2 ^ s) = l ∧ l / 4294967296 = u1 ∧ bits .and .u64 l 4294967295 = u0 ∧ Dig u y1 y0 u1 ∧ Dig ((u * 4294967296 + u1) % Y) y1 y0 u0 ∧ Y = y1 * 4294967296 + y0 ∧
      (hi * 18446744073709551616 + lo) * 2 ^ s = u * 18446744073709551616 + u1 * 4294967296 + u0 ∧ 0 ≤ l ∧ l ≤ 18446744073709551615 := by
  have hP : (0 : Int) < 2 ^ s := Int.pow_pos (by decide)
  have hQ : (0 : Int) < 2 ^ (64 - s) := Int.pow_pos (by decide)
  have hPQ : (2 : Int) ^ s * 2 ^ (64 - s) = 18446744073709551616 := by rw [← Int.pow_add, show s + (64 - s) = 64 by omega]; rfl
  have hQP : (2 : Int) ^ (64 - s) * 2 ^ s = 18446744073709551616 := by rw [Int.mul_comm]; exact hPQ
  have e := Int.mul_ediv_add_emod lo (2 ^ (64 - s))
  have b0 : 0 ≤ lo % 2 ^ (64 - s) := Int.emod_nonneg _ (by omega)
  have b1 : lo % 2 ^ (64 - s) < 2 ^ (64 - s) := Int.emod_lt_of_pos _ hQ
  have a0 : 0 ≤ lo / 2 ^ (64 - s) := Int.ediv_nonneg l0 (by omega)
  have a1 : lo / 2 ^ (64 - s) < 2 ^ s := Int.ediv_lt_of_lt_mul hQ (by omega)
  have c1 : hi * 2 ^ s + 2 ^ s ≤ y * 2 ^ s := by
    have : (hi + 1) * 2 ^ s ≤ y * 2 ^ s := Int.mul_le_mul_of_nonneg_right (by omega) (by omega)
    rw [Int.add_mul] at this; omega
  have c0 : 0 ≤ hi * 2 ^ s := Int.mul_nonneg (by omega) (by omega)
  have wh : IntKind.u64.wrap (hi * 2 ^ s) = hi * 2 ^ s := by rw [IntKind.wrap_u64]; omega
  have el : lo * 2 ^ s = (lo / 2 ^ (64 - s)) * 18446744073709551616 + lo % 2 ^ (64 - s) * 2 ^ s := by
    have t : lo * 2 ^ s = (2 ^ (64 - s) * (lo / 2 ^ (64 - s)) + lo % 2 ^ (64 - s)) * 2 ^ s := by rw [e]
    rw [t, Int.add_mul, ← hQP]
    have : (2 : Int) ^ (64 - s) * (lo / 2 ^ (64 - s)) * 2 ^ s = lo / 2 ^ (64 - s) * (2 ^ (64 - s) * 2 ^ s) := by
      rw [Int.mul_comm ((2 : Int) ^ (64 - s)), Int.mul_assoc]
    rw [this]
  have d0 : 0 ≤ lo % 2 ^ (64 - s) * 2 ^ s := Int.mul_nonneg b0 (by omega)
  have d1 : lo % 2 ^ (64 - s) * 2 ^ s < 18446744073709551616 := by
    rw [← hQP]; exact Int.mul_lt_mul_of_pos_right b1 hP
  have wl : IntKind.u64.wrap (lo * 2 ^ s) = lo % 2 ^ (64 - s) * 2 ^ s := by rw [IntKind.wrap_u64, el]; omega
  have hor : bits .or .u64 (IntKind.u64.wrap (hi * 2 ^ s)) (lo / 2 ^ (64 - s)) = hi * 2 ^ s + lo / 2 ^ (64 - s) := by
    rw [wh]
    exact bits_join .u64 64 (by decide) (fun n n0 n1 => by rw [IntKind.wrap_u64]; omega) s _ _ c0 (Int.mul_emod_left _ _) (by omega) a0 a1 (by omega)
  have y1l : 2147483648 ≤ y * 2 ^ s / 4294967296 := by omega
  have y1h : y * 2 ^ s / 4294967296 < 4294967296 := by omega
  have hY0 : y * 2 ^ s % 4294967296 = y * 2 ^ s - y * 2 ^ s / 4294967296 * 4294967296 := by omega
  refine ⟨y * 2 ^ s, y * 2 ^ s / 4294967296, y * 2 ^ s % 4294967296, hi * 2 ^ s + lo / 2 ^ (64 - s), lo % 2 ^ (64 - s) * 2 ^ s, lo % 2 ^ (64 - s) * 2 ^ s / 4294967296, lo % 2 ^ (64 - s) * 2 ^ s % 4294967296,
    rfl, rfl, and32 _ (by omega) y64, hor, wl, rfl, and32 _ d0 (by omega), ?_, ?_, by omega, ?_, d0, by omega⟩
  · exact ⟨by omega, by omega, y1l, y1h, by omega, by omega, by omega, by omega⟩
  · have hp : 0 < y * 2 ^ s := by omega
    have m0 : 0 ≤ ((hi * 2 ^ s + lo / 2 ^ (64 - s)) * 4294967296 + lo % 2 ^ (64 - s) * 2 ^ s / 4294967296) % (y * 2 ^ s) := Int.emod_nonneg _ (by omega)
    have m1 : ((hi * 2 ^ s + lo / 2 ^ (64 - s)) * 4294967296 + lo % 2 ^ (64 - s) * 2 ^ s / 4294967296) % (y * 2 ^ s) < y * 2 ^ s := Int.emod_lt_of_pos _ hp
    exact ⟨m0, by omega, y1l, y1h, by omega, by omega, by omega, by omega⟩
  · have : (hi * 18446744073709551616 + lo) * 2 ^ s = hi * 2 ^ s * 18446744073709551616 + lo * 2 ^ s := by grind
    rw [this, el]
    omega

theorem wrap_left (u u1 Y q r : Int) (hY : 0 < Y) (hq : q = (u * 4294967296 + u1) / Y) (hr : r = (u * 4294967296 + u1) % Y) (hb : Y ≤ 18446744073709551615) :
    IntKind.u64.wrap (IntKind.u64.wrap (IntKind.u64.wrap (u * 4294967296) + u1) - IntKind.u64.wrap (q * Y)) = r := by
  have e := left_digit (u * 4294967296 + u1) Y q hq
  have m0 : 0 ≤ (u * 4294967296 + u1) % Y := Int.emod_nonneg _ (by omega)
  have m1 : (u * 4294967296 + u1) % Y < Y := Int.emod_lt_of_pos _ hY
  rw [← hr] at e m0 m1
  rw [IntKind.wrap_u64, IntKind.wrap_u64, IntKind.wrap_u64, IntKind.wrap_u64]
  generalize q * Y = z at *
  omega

theorem wrap_rem (u y1 : Int) (h0 : 0 ≤ u) (h1 : 1 ≤ y1) (h2 : u ≤ 18446744073709551615) : IntKind.u64.wrap (u - IntKind.u64.wrap (u / y1 * y1)) = u - u / y1 * y1 := by
  have e := Int.mul_ediv_add_emod u y1
  have m0 : 0 ≤ u % y1 := Int.emod_nonneg _ (by omega)
  have q0 : 0 ≤ u / y1 := Int.ediv_nonneg h0 (by omega)
  have p0 : 0 ≤ u / y1 * y1 := Int.mul_nonneg q0 (by omega)
  rw [Int.mul_comm y1] at e
  rw [IntKind.wrap_u64, IntKind.wrap_u64]
  omega

end Go.Proofs.Ytnmekhgilekofaa.Dv
