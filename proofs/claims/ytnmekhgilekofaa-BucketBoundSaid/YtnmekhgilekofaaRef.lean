/- What the reference's product over a divisor answers. -/
import Derived.Test.YtnmekhgilekofaaSatB
import Derived.Test.YtnmekhgilekofaaRefMath
namespace Go.Proofs.Ytnmekhgilekofaa
open Go.RowKit Sat

set_option maxHeartbeats 400000 in
theorem rparts_zero (a b c : Int) (w : World) (hc : num c = 0) :
    Calls Try.prog 93 #[.int .i64 a, .int .i64 b, .int .i64 c] w fun e w' => e = .returned (.tuple #[.int .i64 (mulDiv a b c), .int .i64 (mulLeft a b c)]) ∧ w = w' := by
  obtain ⟨e1, e2⟩ := mulDiv_over a b c (Or.inl hc)
  rw [e1, e2]; clear e1 e2
  go_enter Try.func93, Try.ntmps93
  go_wp2_with (go_at_call 49; refine (rnum_any _ _).mono ?_; rintro e w' ⟨rfl, rfl⟩)
  go_ret2
  exact ⟨rfl, rfl⟩

set_option maxHeartbeats 1000000 in
theorem rparts_pos (a b c : Int) (w : World) (hc : 1 ≤ num c) :
    Calls Try.prog 93 #[.int .i64 a, .int .i64 b, .int .i64 c] w fun e w' => e = .returned (.tuple #[.int .i64 (mulDiv a b c), .int .i64 (mulLeft a b c)]) ∧ w = w' := by
  have a0 := num_lo a; have a1 := num_hi a; have b0 := num_lo b; have b1 := num_hi b; have c1 := num_hi c
  have hc' : (num c == 0) = false := by rw [beq_eq_false_iff_ne]; omega
  have S0 := Lib.hid (st_start (num a) (num b) (num c) a0 a1)
  go_enter Try.func93, Try.ntmps93
  go_wp2_with (go_at_call 49; refine (rnum_any _ _).mono ?_; rintro e w' ⟨rfl, rfl⟩)
  go_loop [10, 8, 9] (fun t u v => ∃ (k : Nat) (p q r : Int), St (num a) (num b) (num c) k p q r ∧ t = .int .i64 p ∧ u = .int .i64 q ∧ v = .int .i64 r) (fun t _ _ => (intOf t).toNat)
  case atStart => exact ⟨53, _, _, _, S0.out, rfl, rfl, rfl⟩
  case round =>
    obtain ⟨k, p, q, r, hst, rfl, rfl, rfl⟩ := hrel
    obtain ⟨q0, r0, r1⟩ := st_lo hst a0 b0 hc
    have q1 := hst.qM
    have HS := Lib.hid hst; clear hst
    by_cases hp : 1 ≤ p
    · have p1 : p ≤ 4503599627370496 := by obtain ⟨_, _, _, h⟩ := st_pos HS.out hp; exact h
      have x0 : 0 ≤ num a / p := Int.ediv_nonneg a0 (by omega)
      have x1 : num a / p ≤ 9007199254740991 := by have := Int.ediv_le_self p a0; omega
      have hp' : ¬ p = 0 := by omega
      by_cases hd : num a / p % 2 = 1
      · have z0 : 0 ≤ (2 * r + num b) / num c := Int.ediv_nonneg (by omega) (by omega)
        have z1 : (2 * r + num b) / num c ≤ 27021597764222973 := by have := Int.ediv_le_self (num c) (by omega : 0 ≤ 2 * r + num b); omega
        have y0 : 0 ≤ (2 * r + num b) % num c := Int.emod_nonneg _ (by omega)
        have y1 : (2 * r + num b) % num c < num c := Int.emod_lt_of_pos _ (by omega)
        have hd' : (num a / p % 2 == 1) = true := by rw [beq_iff_eq]; exact hd
        by_cases hM : 9007199254740991 < 2 * q + (2 * r + num b) / num c
        · have HE := Lib.hid (mulDiv_over a b c (Or.inr (st_big HS.out a0 b0 hc hp (num b) (Or.inl ⟨hd, rfl⟩) hM)))
          clear hd
          go_wp2
          go_ret2
          exact ⟨ret_two HE.out.1.symm HE.out.2.symm, rfl⟩
        · have HN := Lib.hid (st_step HS.out hc hp (num b) (Or.inl ⟨hd, rfl⟩) (by omega))
          clear hd
          go_wp2
          go_round
          case rel => obtain ⟨m, h, _⟩ := HN.out; exact ⟨m, _, _, _, h, rfl, rfl, rfl⟩
          case measure => simp [intOf]; omega
      · have hd0 : num a / p % 2 = 0 := by omega
        have z0 : 0 ≤ (2 * r) / num c := Int.ediv_nonneg (by omega) (by omega)
        have z1 : (2 * r) / num c ≤ 27021597764222973 := by have := Int.ediv_le_self (num c) (by omega : 0 ≤ 2 * r); omega
        have y0 : 0 ≤ (2 * r) % num c := Int.emod_nonneg _ (by omega)
        have y1 : (2 * r) % num c < num c := Int.emod_lt_of_pos _ (by omega)
        have hd' : (num a / p % 2 == 1) = false := by rw [beq_eq_false_iff_ne]; exact hd
        have ez : 2 * r + 0 = 2 * r := by omega
        by_cases hM : 9007199254740991 < 2 * q + (2 * r) / num c
        · have HE := Lib.hid (mulDiv_over a b c (Or.inr (st_big HS.out a0 b0 hc hp 0 (Or.inr ⟨hd0, rfl⟩) (by rw [ez]; exact hM))))
          clear hd hd0 ez
          go_wp2
          go_ret2
          exact ⟨ret_two HE.out.1.symm HE.out.2.symm, rfl⟩
        · have hn := st_step HS.out hc hp 0 (Or.inr ⟨hd0, rfl⟩) (by rw [ez]; omega)
          rw [ez] at hn
          have HN := Lib.hid hn
          clear hn hd hd0 ez
          go_wp2
          go_round
          case rel => obtain ⟨m, h, _⟩ := HN.out; exact ⟨m, _, _, _, h, rfl, rfl, rfl⟩
          case measure => simp [intOf]; omega
    · have hk := st_zero HS.out (by omega)
      subst hk
      obtain ⟨e1, e2⟩ := st_end HS.out
      have HE := Lib.hid (mulDiv_of a b c hc (by rw [← e1]; exact q1))
      rw [← e1, ← e2] at HE
      clear e1 e2
      go_wp2
      go_ret2
      exact ⟨ret_two HE.out.1.symm HE.out.2.symm, rfl⟩

theorem rparts_any (a b c : Int) (w : World) :
    Calls Try.prog 93 #[.int .i64 a, .int .i64 b, .int .i64 c] w fun e w' => e = .returned (.tuple #[.int .i64 (mulDiv a b c), .int .i64 (mulLeft a b c)]) ∧ w = w' := by
  by_cases hc : num c = 0
  · exact rparts_zero a b c w hc
  · exact rparts_pos a b c w (by have := num_lo c; omega)

end Go.Proofs.Ytnmekhgilekofaa
