/- sat.nums, sat.parts: the exact product, parted. -/
import Derived.Test.YtnmekhgilekofaaDivAny
import Derived.BigQuiet
import Derived.Deep.QuietTactic
namespace Go.Proofs.Ytnmekhgilekofaa
open Go.RowKit Sat

set_option maxHeartbeats 400000 in
theorem nums_three (a b c : Int) (k : Nat) (w : World) (hk : w.heap[k]? = some (.cells #[.int .i64 a, .int .i64 b, .int .i64 c] 3 (0, 0))) :
    Calls Try.prog 100 #[.slice (some ⟨k, 0, none⟩) 3 3] w fun e w' => e = .returned (.slice (some ⟨w.heap.size, 0, none⟩) 3 3) ∧ w' = w.alloc (.cells #[.int .u64 (num a), .int .u64 (num b), .int .u64 (num c)] 87 (0, 0)) := by
  have c0 : w.cell? ⟨k, 0, none⟩ = some (.int .i64 a) := by simp [World.cell?, hk]
  have c1 : w.cell? ⟨k, 1, none⟩ = some (.int .i64 b) := by simp [World.cell?, hk]
  have c2 : w.cell? ⟨k, 2, none⟩ = some (.int .i64 c) := by simp [World.cell?, hk]
  have a0 := num_lo a; have a1 := num_hi a; have b0 := num_lo b; have b1 := num_hi b; have d0 := num_lo c; have d1 := num_hi c
  have hlt : k < w.heap.size := lt_of_block hk
  have hmk : ∀ w : World, (Instr.makeSlice 104 (.int .i64 3) (.int .i64 3)).run Try.prog w = .ok (.slice (some ⟨w.heap.size, 0, none⟩) 3 3) (w.alloc (.cells #[.int .u64 0, .int .u64 0, .int .u64 0] 87 (0, 0))) := fun _ => by kernel_rfl
  go_enter Try.func100, Try.ntmps100
  go_wp2_with fail
  go_loopw [11] (fun i wr => ∃ j : Nat, j ≤ 3 ∧ i = .int .i64 j ∧ wr = w.alloc (.cells #[.int .u64 (if 0 < j then num a else 0), .int .u64 (if 1 < j then num b else 0), .int .u64 (if 2 < j then num c else 0)] 87 (0, 0))) (fun i _ => (3 - intOf i).toNat)
  case atStart => exact ⟨0, by omega, rfl, rfl⟩
  case round =>
    obtain ⟨j, hj, rfl, rfl⟩ := hrel
    have hc : j = 0 ∨ j = 1 ∨ j = 2 ∨ j = 3 := by omega
    rcases hc with rfl | rfl | rfl | rfl
    · go_wp2_with (go_at_call 48; refine (num_any _ _).mono ?_; rintro e w' ⟨rfl, rfl⟩)
      go_roundw
      case rel => exact ⟨1, by omega, rfl, rfl⟩
      case measure => simp [intOf]
    · go_wp2_with (go_at_call 48; refine (num_any _ _).mono ?_; rintro e w' ⟨rfl, rfl⟩)
      go_roundw
      case rel => exact ⟨2, by omega, rfl, rfl⟩
      case measure => simp [intOf]
    · go_wp2_with (go_at_call 48; refine (num_any _ _).mono ?_; rintro e w' ⟨rfl, rfl⟩)
      go_roundw
      case rel => exact ⟨3, by omega, rfl, rfl⟩
      case measure => simp [intOf]
    · go_wp2
      go_ret
      exact ⟨rfl, rfl⟩

theorem mul64_int (x y : Int) (w : World) (hx0 : 0 ≤ x) (hx : x < 18446744073709551616) (hy0 : 0 ≤ y) (hy : y < 18446744073709551616) :
    Calls Try.prog 84 #[.int .u64 x, .int .u64 y] w fun e w' => e = .returned (.tuple #[.int .u64 (x * y / 18446744073709551616), .int .u64 (x * y % 18446744073709551616)]) ∧ w' = w := by
  obtain ⟨n, rfl⟩ := Int.eq_ofNat_of_zero_le hx0
  obtain ⟨m, rfl⟩ := Int.eq_ofNat_of_zero_le hy0
  refine (Try.bits_Mul64 n m (by omega) (by omega) w).mono fun e w' ⟨he, hw⟩ => ⟨?_, hw⟩
  rw [he, Int.natCast_ediv, Int.natCast_emod, Int.natCast_mul]; rfl

/-- What sat.parts answers: the quotient and the rest of the exact product, where the quotient takes one word. -/
def fits (a b c : Int) : Bool := decide (num a * num b / 18446744073709551616 < num c)
def pq (a b c : Int) : Int := if fits a b c then num a * num b / num c else 0
def pr (a b c : Int) : Int := if fits a b c then num a * num b % num c else 0

set_option maxHeartbeats 400000 in
theorem parts_yes (a b c : Int) (w : World) (hf : num a * num b / 18446744073709551616 < num c) :
    Calls Try.prog 92 #[.int .i64 a, .int .i64 b, .int .i64 c] w fun e w' => e = .returned (.tuple #[.int .u64 (num a * num b / num c), .int .u64 (num a * num b % num c), .bool true]) ∧ Below w.heap.size w w' := by
  have a0 := num_lo a; have a1 := num_hi a; have b0 := num_lo b; have b1 := num_hi b; have c0 := num_lo c; have c1 := num_hi c
  have p0 := prod_lo a b
  have h0 : 0 ≤ num a * num b / 18446744073709551616 := by omega
  have HM : Hid (∀ w : World, Calls Try.prog 84 #[.int .u64 (num a), .int .u64 (num b)] w fun e w' => e = .returned (.tuple #[.int .u64 (num a * num b / 18446744073709551616), .int .u64 (num a * num b % 18446744073709551616)]) ∧ w' = w) :=
    fun w => mul64_int (num a) (num b) w a0 (by omega) b0 (by omega)
  have HD : Hid (∀ w : World, Calls Try.prog 87 #[.int .u64 (num a * num b / 18446744073709551616), .int .u64 (num a * num b % 18446744073709551616), .int .u64 (num c)] w fun e w' => e = .returned (.tuple #[.int .u64 (num a * num b / num c), .int .u64 (num a * num b % num c)]) ∧ ∃ n, w' = w.drewN n) := by
    intro w
    have e : num a * num b / 18446744073709551616 * 18446744073709551616 + num a * num b % 18446744073709551616 = num a * num b := by omega
    have h := div64_any (num a * num b / 18446744073709551616) (num a * num b % 18446744073709551616) (num c) w h0 hf (by omega) (by omega) (by omega)
    rw [e] at h
    exact h
  have hf' : ¬ num c ≤ num a * num b / 18446744073709551616 := by omega
  clear hf p0 h0
  generalize num a * num b / 18446744073709551616 = H at *
  generalize num a * num b % 18446744073709551616 = L at *
  generalize num a * num b / num c = Q at *
  generalize num a * num b % num c = R at *
  go_enter Try.func92, Try.ntmps92
  go_wp2_with fail
  refine (nums_three a b c w.heap.size _ (heap_alloc_new _ _)).mono ?_
  rintro e w' ⟨rfl, rfl⟩
  go_wp2_with fail
  go_quiet ((go_at_call 84; exact Calls.quiet_of_same (HM.out _)))
  go_wp2_with fail
  refine (HD.out _).mono ?_
  rintro e w' ⟨rfl, n, rfl⟩
  go_wp2_with fail
  go_ret3
  exact ⟨rfl, below_drewN ((((Below.refl _ _).alloc (Nat.le_refl _) _).alloc (by simp) _)) _⟩

set_option maxHeartbeats 400000 in
theorem parts_no (a b c : Int) (w : World) (hf : num c ≤ num a * num b / 18446744073709551616) :
    Calls Try.prog 92 #[.int .i64 a, .int .i64 b, .int .i64 c] w fun e w' => e = .returned (.tuple #[.int .u64 0, .int .u64 0, .bool false]) ∧ Below w.heap.size w w' := by
  have a0 := num_lo a; have a1 := num_hi a; have b0 := num_lo b; have b1 := num_hi b; have c0 := num_lo c; have c1 := num_hi c
  have HM : Hid (∀ w : World, Calls Try.prog 84 #[.int .u64 (num a), .int .u64 (num b)] w fun e w' => e = .returned (.tuple #[.int .u64 (num a * num b / 18446744073709551616), .int .u64 (num a * num b % 18446744073709551616)]) ∧ w' = w) :=
    fun w => mul64_int (num a) (num b) w a0 (by omega) b0 (by omega)
  generalize num a * num b / 18446744073709551616 = H at *
  generalize num a * num b % 18446744073709551616 = L at *
  go_enter Try.func92, Try.ntmps92
  go_wp2_with fail
  refine (nums_three a b c w.heap.size _ (heap_alloc_new _ _)).mono ?_
  rintro e w' ⟨rfl, rfl⟩
  go_wp2_with fail
  go_quiet ((go_at_call 84; exact Calls.quiet_of_same (HM.out _)))
  go_wp2_with fail
  go_ret3
  exact ⟨rfl, below_drewN ((((Below.refl _ _).alloc (Nat.le_refl _) _).alloc (by simp) _)) _⟩

theorem parts_any (a b c : Int) (w : World) :
    Calls Try.prog 92 #[.int .i64 a, .int .i64 b, .int .i64 c] w fun e w' => e = .returned (.tuple #[.int .u64 (pq a b c), .int .u64 (pr a b c), .bool (fits a b c)]) ∧ Below w.heap.size w w' := by
  by_cases hf : num a * num b / 18446744073709551616 < num c
  · have h : fits a b c = true := decide_eq_true hf
    refine (parts_yes a b c w hf).mono fun e w' ⟨he, hw⟩ => ⟨?_, hw⟩
    rw [he]; unfold pq pr; rw [h]; rfl
  · have h : fits a b c = false := decide_eq_false hf
    refine (parts_no a b c w (by omega)).mono fun e w' ⟨he, hw⟩ => ⟨?_, hw⟩
    rw [he]; unfold pq pr; rw [h]; rfl

end Go.Proofs.Ytnmekhgilekofaa
