/- math/bits.Div64, both roads. -/
import Derived.Test.YtnmekhgilekofaaDiv
import Derived.BigQuiet
import Derived.Deep.QuietTactic
namespace Go.Proofs.Ytnmekhgilekofaa
open Go.RowKit Sat

set_option maxHeartbeats 400000 in
theorem div64_small (lo y : Int) (w : World) (h1 : 0 < y) (h2 : y ≤ 18446744073709551615) (l0 : 0 ≤ lo) (l1 : lo ≤ 18446744073709551615) :
    Calls Try.prog 87 #[.int .u64 0, .int .u64 lo, .int .u64 y] w fun e w' => e = .returned (.tuple #[.int .u64 (lo / y), .int .u64 (lo % y)]) ∧ ∃ n, w' = w.drewN n := by
  have z1 : (y == 0) = false := by rw [beq_eq_false_iff_ne]; omega
  have z3 : ¬ y = 0 := by omega
  have z2 : ¬ y ≤ 0 := by omega
  have q0 : 0 ≤ lo / y := Int.ediv_nonneg l0 (by omega)
  have q1 : lo / y ≤ 18446744073709551615 := by
    have := Int.ediv_le_self y l0
    omega
  have m0 : 0 ≤ lo % y := Int.emod_nonneg _ z3
  have m1 : lo % y < y := Int.emod_lt_of_pos _ h1
  go_enter Try.func87, Try.ntmps87
  go_wp2
  go_quiet (fail)
  go_wp2
  go_ret2
  exact ⟨rfl, _, rfl⟩

theorem div64_any (hi lo y : Int) (w : World) (h0 : 0 ≤ hi) (h1 : hi < y) (h2 : y ≤ 18446744073709551615) (l0 : 0 ≤ lo) (l1 : lo ≤ 18446744073709551615) :
    Calls Try.prog 87 #[.int .u64 hi, .int .u64 lo, .int .u64 y] w fun e w' => e = .returned (.tuple #[.int .u64 ((hi * 18446744073709551616 + lo) / y), .int .u64 ((hi * 18446744073709551616 + lo) % y)]) ∧ ∃ n, w' = w.drewN n := by
  rcases Int.lt_or_le hi 1 with h | h
  · obtain rfl : hi = 0 := by omega
    refine (div64_small lo y w h1 h2 l0 l1).mono fun e w' ⟨he, hw⟩ => ⟨?_, hw⟩
    rw [he, show (0 : Int) * 18446744073709551616 + lo = lo by omega]
  · exact (div64_big hi lo y w h h1 h2 l0 l1).mono fun e w' ⟨he, hw⟩ => ⟨he, 0, hw.symm⟩

end Go.Proofs.Ytnmekhgilekofaa
