/- math/bits.Div64: the quotient and the remainder of two words by one that is greater than the upper one. -/
import Derived.Test.YtnmekhgilekofaaSat
import Derived.Test.YtnmekhgilekofaaDivMath
namespace Go.Proofs.Ytnmekhgilekofaa
open Go.RowKit Sat

set_option maxHeartbeats 1600000 in
theorem div64_big (hi lo y : Int) (w : World) (h0 : 1 ≤ hi) (h1 : hi < y) (h2 : y ≤ 18446744073709551615) (l0 : 0 ≤ lo) (l1 : lo ≤ 18446744073709551615) :
    Calls Try.prog 87 #[.int .u64 hi, .int .u64 lo, .int .u64 y] w fun e w' => e = .returned (.tuple #[.int .u64 ((hi * 18446744073709551616 + lo) / y), .int .u64 ((hi * 18446744073709551616 + lo) % y)]) ∧ w = w' := by
  have z0 : (hi == 0) = false := by rw [beq_eq_false_iff_ne]; omega
  have z1 : (y == 0) = false := by rw [beq_eq_false_iff_ne]; omega
  have z2 : ¬ y ≤ hi := by omega
  obtain ⟨s, s63, hs, y63, y64⟩ := Dv.norm y (by omega) h2
  have HZ : Hid (∀ w : World, Calls Try.prog 99 #[.int .u64 y] w fun e w' => e = .returned (.int .i64 (s : Int)) ∧ w = w') := fun w => (Try.bits_LeadingZeros64 y w (by omega) h2).mono fun e w' ⟨he, hw⟩ => ⟨by rw [he, hs], hw.symm⟩
  clear hs
  obtain ⟨Y, y1, y0, u, l, u1, u0, eY, ey1, ey0, eu, el, eu1, eu0, d1, d0, hY, hsum, ll, lh⟩ := Dv.setup hi lo y s s63 h0 h1 l0 l1 y63 y64
  rw [eY] at y63 y64
  obtain ⟨Q1, hQ1⟩ : ∃ Q1, Q1 = (u * 4294967296 + u1) / Y := ⟨_, rfl⟩
  obtain ⟨R1, hR1⟩ : ∃ R1, R1 = (u * 4294967296 + u1) % Y := ⟨_, rfl⟩
  obtain ⟨Q0, hQ0⟩ : ∃ Q0, Q0 = (R1 * 4294967296 + u0) / Y := ⟨_, rfl⟩
  obtain ⟨R0, hR0⟩ : ∃ R0, R0 = (R1 * 4294967296 + u0) % Y := ⟨_, rfl⟩
  rw [← hR1] at d0
  have eR1 := Dv.wrap_left u u1 Y Q1 R1 (by omega) hQ1 hR1 y64
  have eR0 := Dv.wrap_left R1 u0 Y Q0 R0 (by omega) hQ0 hR0 y64
  have hfin := Dv.both (hi * 18446744073709551616 + lo) y (2 ^ s) Q1 R1 Q0 R0 u u1 u0 (Int.pow_pos (by decide)) (by omega) hsum (by rw [eY]; exact hQ1) (by rw [eY]; exact hR1) (by rw [eY]; exact hQ0) (by rw [eY]; exact hR0)
  have q1l : 0 ≤ Q1 := by rw [hQ1, hY]; exact Dv.q_nonneg d1
  have q1h : Q1 < 4294967296 := by rw [hQ1, hY]; exact Dv.q_lt d1
  have q0l : 0 ≤ Q0 := by rw [hQ0, hY]; exact Dv.q_nonneg d0
  have q0h : Q0 < 4294967296 := by rw [hQ0, hY]; exact Dv.q_lt d0
  rw [hY] at hQ1 hQ0
  have HY := Lib.hid hY; clear hY
  have HQ1 := Lib.hid hQ1; clear hQ1
  have HQ0 := Lib.hid hQ0; clear hQ0
  clear hR1 hR0 hsum
  have HF := Lib.hid hfin; clear hfin
  have D1 := Lib.hid d1
  have D0 := Lib.hid d0
  have I1 := Lib.hid (Dv.inv_start d1)
  have I0 := Lib.hid (Dv.inv_start d0)
  obtain ⟨u00, uy, y1l, y1h, y0l, y0h, u1l, u1h⟩ := d1
  obtain ⟨r10, r1y, _, _, _, _, u0l, u0h⟩ := d0
  go_enter Try.func87, Try.ntmps87
  go_wp2_with (go_at_call 99; refine (HZ.out _).mono ?_; rintro e w' ⟨rfl, rfl⟩)
  go_loop [15, 16] (fun q r => ∃ a b : Int, Dv.Inv u y1 y0 u1 a b ∧ q = .int .u64 a ∧ r = .int .u64 b) (fun q _ => (intOf q).toNat)
  case atStart => exact ⟨_, _, I1.out, rfl, by rw [Dv.wrap_rem u y1 (by omega) (by omega) (by omega)]⟩
  case round =>
    obtain ⟨a, b, hinv, rfl, rfl⟩ := hrel
    have hp := Dv.inv_prod D1.out hinv
    have hb0 : 0 ≤ b := hinv.2.1
    have hb1 : b < 4294967296 := hinv.2.2.1
    have ha1 : a ≤ 4294967297 := hinv.2.2.2.2.1
    have ha0 : 0 ≤ a := hinv.2.2.2.2.2
    have HI := Lib.hid hinv; clear hinv
    obtain ⟨P, eP⟩ : ∃ P, a * y0 = P := ⟨_, rfl⟩
    rw [eP] at hp
    obtain ⟨hp0, hp1⟩ := hp
    by_cases hA : a < 4294967296 ∧ P ≤ 4294967296 * b + u1
    · obtain ⟨hA1, hA2⟩ := hA
      obtain rfl : a = Q1 := (Dv.inv_exit D1.out HI.out (by omega)).trans HQ1.out.symm
      clear HI
      go_wp2
      go_loop [18, 16] (fun q r => ∃ a b : Int, Dv.Inv R1 y1 y0 u0 a b ∧ q = .int .u64 a ∧ r = .int .u64 b) (fun q _ => (intOf q).toNat)
      case atStart => exact ⟨_, _, I0.out, rfl, by rw [Dv.wrap_rem R1 y1 (by omega) (by omega) (by omega)]⟩
      case round =>
        clear hA1 hA2 hp0 hp1 hb0 hb1 ha0 ha1 eP
        obtain ⟨a, b, hinv, rfl, rfl⟩ := hrel
        have hp := Dv.inv_prod D0.out hinv
        have hb0 : 0 ≤ b := hinv.2.1
        have hb1 : b < 4294967296 := hinv.2.2.1
        have ha1 : a ≤ 4294967297 := hinv.2.2.2.2.1
        have ha0 : 0 ≤ a := hinv.2.2.2.2.2
        have HI := Lib.hid hinv; clear hinv
        obtain ⟨P, eP⟩ : ∃ P, a * y0 = P := ⟨_, rfl⟩
        rw [eP] at hp
        obtain ⟨hp0, hp1⟩ := hp
        by_cases hA : a < 4294967296 ∧ P ≤ 4294967296 * b + u0
        · obtain ⟨hA1, hA2⟩ := hA
          obtain rfl : a = Q0 := (Dv.inv_exit D0.out HI.out (by omega)).trans HQ0.out.symm
          clear HI
          go_wp2
          go_ret2
          exact ⟨ret_two HF.out.1 HF.out.2, rfl⟩
        · have hs1 := (Dv.inv_pos D0.out HI.out (by omega)).1
          by_cases hr : b + y1 < 4294967296
          · have HN := Lib.hid (Dv.inv_step D0.out HI.out (by omega) hr)
            by_cases hg : 4294967296 ≤ a
            · go_wp2
              go_round
              case rel => exact ⟨_, _, HN.out, rfl, rfl⟩
              case measure => simp [intOf]; omega
            · have hg2 : 4294967296 * b + u0 < P := by omega
              clear hA
              go_wp2
              go_round
              case rel => exact ⟨_, _, HN.out, rfl, rfl⟩
              case measure => simp [intOf]; omega
          · have hq := (Dv.inv_break D0.out HI.out (by omega) (by omega)).trans HQ0.out.symm
            obtain rfl : a = Q0 + 1 := by omega
            clear HI hq
            by_cases hg : 4294967296 ≤ Q0 + 1
            · clear hA
              go_wp2
              go_ret2
              exact ⟨ret_two HF.out.1 HF.out.2, rfl⟩
            · have hg2 : 4294967296 * b + u0 < P := by omega
              clear hA
              go_wp2
              go_ret2
              exact ⟨ret_two HF.out.1 HF.out.2, rfl⟩
    · have hs1 := (Dv.inv_pos D1.out HI.out (by omega)).1
      by_cases hr : b + y1 < 4294967296
      · have HN := Lib.hid (Dv.inv_step D1.out HI.out (by omega) hr)
        by_cases hg : 4294967296 ≤ a
        · go_wp2
          go_round
          case rel => exact ⟨_, _, HN.out, rfl, rfl⟩
          case measure => simp [intOf]; omega
        · have hg2 : 4294967296 * b + u1 < P := by omega
          clear hA
          go_wp2
          go_round
          case rel => exact ⟨_, _, HN.out, rfl, rfl⟩
          case measure => simp [intOf]; omega
      · have hq := (Dv.inv_break D1.out HI.out (by omega) (by omega)).trans HQ1.out.symm
        obtain rfl : a = Q1 + 1 := by omega
        clear HI hq
        by_cases hg : 4294967296 ≤ Q1 + 1
        · clear hA
          go_wp2
          go_loop [18, 16] (fun q r => ∃ a b : Int, Dv.Inv R1 y1 y0 u0 a b ∧ q = .int .u64 a ∧ r = .int .u64 b) (fun q _ => (intOf q).toNat)
          case atStart => exact ⟨_, _, I0.out, rfl, by rw [Dv.wrap_rem R1 y1 (by omega) (by omega) (by omega)]⟩
          case round =>
            clear hs1 hr hg hp0 hp1 hb0 hb1 ha0 ha1 eP
            obtain ⟨a, b, hinv, rfl, rfl⟩ := hrel
            have hp := Dv.inv_prod D0.out hinv
            have hb0 : 0 ≤ b := hinv.2.1
            have hb1 : b < 4294967296 := hinv.2.2.1
            have ha1 : a ≤ 4294967297 := hinv.2.2.2.2.1
            have ha0 : 0 ≤ a := hinv.2.2.2.2.2
            have HI := Lib.hid hinv; clear hinv
            obtain ⟨P, eP⟩ : ∃ P, a * y0 = P := ⟨_, rfl⟩
            rw [eP] at hp
            obtain ⟨hp0, hp1⟩ := hp
            by_cases hA : a < 4294967296 ∧ P ≤ 4294967296 * b + u0
            · obtain ⟨hA1, hA2⟩ := hA
              obtain rfl : a = Q0 := (Dv.inv_exit D0.out HI.out (by omega)).trans HQ0.out.symm
              clear HI
              go_wp2
              go_ret2
              exact ⟨ret_two HF.out.1 HF.out.2, rfl⟩
            · have hs1 := (Dv.inv_pos D0.out HI.out (by omega)).1
              by_cases hr : b + y1 < 4294967296
              · have HN := Lib.hid (Dv.inv_step D0.out HI.out (by omega) hr)
                by_cases hg : 4294967296 ≤ a
                · go_wp2
                  go_round
                  case rel => exact ⟨_, _, HN.out, rfl, rfl⟩
                  case measure => simp [intOf]; omega
                · have hg2 : 4294967296 * b + u0 < P := by omega
                  clear hA
                  go_wp2
                  go_round
                  case rel => exact ⟨_, _, HN.out, rfl, rfl⟩
                  case measure => simp [intOf]; omega
              · have hq := (Dv.inv_break D0.out HI.out (by omega) (by omega)).trans HQ0.out.symm
                obtain rfl : a = Q0 + 1 := by omega
                clear HI hq
                by_cases hg : 4294967296 ≤ Q0 + 1
                · clear hA
                  go_wp2
                  go_ret2
                  exact ⟨ret_two HF.out.1 HF.out.2, rfl⟩
                · have hg2 : 4294967296 * b + u0 < P := by omega
                  clear hA
                  go_wp2
                  go_ret2
                  exact ⟨ret_two HF.out.1 HF.out.2, rfl⟩
        · have hg2 : 4294967296 * b + u1 < P := by omega
          clear hA
          go_wp2
          go_loop [18, 16] (fun q r => ∃ a b : Int, Dv.Inv R1 y1 y0 u0 a b ∧ q = .int .u64 a ∧ r = .int .u64 b) (fun q _ => (intOf q).toNat)
          case atStart => exact ⟨_, _, I0.out, rfl, by rw [Dv.wrap_rem R1 y1 (by omega) (by omega) (by omega)]⟩
          case round =>
            clear hs1 hr hg hp0 hp1 hb0 hb1 ha0 ha1 eP
            obtain ⟨a, b, hinv, rfl, rfl⟩ := hrel
            have hp := Dv.inv_prod D0.out hinv
            have hb0 : 0 ≤ b := hinv.2.1
            have hb1 : b < 4294967296 := hinv.2.2.1
            have ha1 : a ≤ 4294967297 := hinv.2.2.2.2.1
            have ha0 : 0 ≤ a := hinv.2.2.2.2.2
            have HI := Lib.hid hinv; clear hinv
            obtain ⟨P, eP⟩ : ∃ P, a * y0 = P := ⟨_, rfl⟩
            rw [eP] at hp
            obtain ⟨hp0, hp1⟩ := hp
            by_cases hA : a < 4294967296 ∧ P ≤ 4294967296 * b + u0
            · obtain ⟨hA1, hA2⟩ := hA
              obtain rfl : a = Q0 := (Dv.inv_exit D0.out HI.out (by omega)).trans HQ0.out.symm
              clear HI
              go_wp2
              go_ret2
              exact ⟨ret_two HF.out.1 HF.out.2, rfl⟩
            · have hs1 := (Dv.inv_pos D0.out HI.out (by omega)).1
              by_cases hr : b + y1 < 4294967296
              · have HN := Lib.hid (Dv.inv_step D0.out HI.out (by omega) hr)
                by_cases hg : 4294967296 ≤ a
                · go_wp2
                  go_round
                  case rel => exact ⟨_, _, HN.out, rfl, rfl⟩
                  case measure => simp [intOf]; omega
                · have hg2 : 4294967296 * b + u0 < P := by omega
                  clear hA
                  go_wp2
                  go_round
                  case rel => exact ⟨_, _, HN.out, rfl, rfl⟩
                  case measure => simp [intOf]; omega
              · have hq := (Dv.inv_break D0.out HI.out (by omega) (by omega)).trans HQ0.out.symm
                obtain rfl : a = Q0 + 1 := by omega
                clear HI hq
                by_cases hg : 4294967296 ≤ Q0 + 1
                · clear hA
                  go_wp2
                  go_ret2
                  exact ⟨ret_two HF.out.1 HF.out.2, rfl⟩
                · have hg2 : 4294967296 * b + u0 < P := by omega
                  clear hA
                  go_wp2
                  go_ret2
                  exact ⟨ret_two HF.out.1 HF.out.2, rfl⟩

end Go.Proofs.Ytnmekhgilekofaa
