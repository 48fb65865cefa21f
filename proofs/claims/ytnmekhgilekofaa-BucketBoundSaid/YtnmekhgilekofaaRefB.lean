/- What MulDiv, MulRest, MulUp, Mul and the functions on times of the reference answer: one contract each. -/
import Derived.Test.YtnmekhgilekofaaRef
namespace Go.Proofs.Ytnmekhgilekofaa
open Go.RowKit Sat

set_option maxHeartbeats 400000 in
theorem rmulRest_any (a b c : Int) (w : World) :
    Calls Try.prog 56 #[.int .i64 a, .int .i64 b, .int .i64 c] w fun e w' => e = .returned (.tuple #[.int .i64 (mulDiv a b c), .int .i64 (mulLeft a b c)]) ∧ w = w' := by
  go_enter Try.func56, Try.ntmps56
  go_wp2_with (go_at_call 93; refine (rparts_any _ _ _ _).mono ?_; rintro e w' ⟨rfl, rfl⟩)
  go_ret2
  exact ⟨rfl, rfl⟩
set_option maxHeartbeats 400000 in
theorem rmulDiv_any (a b c : Int) (w : World) :
    Calls Try.prog 58 #[.int .i64 a, .int .i64 b, .int .i64 c] w fun e w' => e = .returned (.int .i64 (mulDiv a b c)) ∧ w = w' := by
  go_enter Try.func58, Try.ntmps58
  go_wp2_with (go_at_call 93; refine (rparts_any _ _ _ _).mono ?_; rintro e w' ⟨rfl, rfl⟩)
  go_ret
  exact ⟨rfl, rfl⟩
set_option maxHeartbeats 400000 in
theorem rmul_any (a b : Int) (w : World) :
    Calls Try.prog 54 #[.int .i64 a, .int .i64 b] w fun e w' => e = .returned (.int .i64 (mul a b)) ∧ w = w' := by
  go_enter Try.func54, Try.ntmps54
  go_wp2_with (go_at_call 58; refine (rmulDiv_any _ _ _ _).mono ?_; rintro e w' ⟨rfl, rfl⟩)
  go_ret
  exact ⟨rfl, rfl⟩
set_option maxHeartbeats 400000 in
theorem rmulUp_any (a b c : Int) (w : World) :
    Calls Try.prog 60 #[.int .i64 a, .int .i64 b, .int .i64 c] w fun e w' => e = .returned (.int .i64 (mulUp a b c)) ∧ w = w' := by
  have d0 := mulDiv_lo a b c; have d1 := mulDiv_hi a b c
  have l0 := mulLeft_lo a b c
  by_cases h : mulLeft a b c = 0
  · have e : mulUp a b c = mulDiv a b c := by unfold mulUp; rw [if_pos h]
    rw [e]
    have hp : ¬ 0 < mulLeft a b c := by omega
    clear h e
    go_enter Try.func60, Try.ntmps60
    go_wp2_with (first | (go_at_call 93; refine (rparts_any _ _ _ _).mono ?_; rintro e w' ⟨rfl, rfl⟩) | (go_at_call 49; refine (rnum_any _ _).mono ?_; rintro e w' ⟨rfl, rfl⟩))
    go_ret
    exact ⟨rfl, rfl⟩
  · have e : mulUp a b c = num (mulDiv a b c + 1) := by unfold mulUp; rw [if_neg h]
    rw [e]
    have hp : 0 < mulLeft a b c := by omega
    clear h e
    go_enter Try.func60, Try.ntmps60
    go_wp2_with (first | (go_at_call 93; refine (rparts_any _ _ _ _).mono ?_; rintro e w' ⟨rfl, rfl⟩) | (go_at_call 49; refine (rnum_any _ _).mono ?_; rintro e w' ⟨rfl, rfl⟩))
    go_ret
    exact ⟨rfl, rfl⟩
set_option maxHeartbeats 400000 in
theorem rtime_any (a : Int) (w : World) :
    Calls Try.prog 90 #[.int .i64 a] w fun e w' => e = .returned (.int .i64 (tm a)) ∧ w = w' := by
  rcases hb : isTime a with _ | _
  · have e : tm a = -1 := tm_noTime hb
    rw [e]; clear e
    go_enter Try.func90, Try.ntmps90
    go_wp2_with (go_at_call 38; refine (risTime_any _ _).mono ?_; rintro e w' ⟨rfl, rfl⟩)
    go_ret
    exact ⟨rfl, rfl⟩
  · have e : tm a = a := tm_time hb
    rw [e]; clear e
    go_enter Try.func90, Try.ntmps90
    go_wp2_with (go_at_call 38; refine (risTime_any _ _).mono ?_; rintro e w' ⟨rfl, rfl⟩)
    go_ret
    exact ⟨rfl, rfl⟩
set_option maxHeartbeats 400000 in
theorem rearlier_any (a b : Int) (w : World) :
    Calls Try.prog 40 #[.int .i64 a, .int .i64 b] w fun e w' => e = .returned (.int .i64 (earlier a b)) ∧ w = w' := by
  rw [earlier_tm]
  have ha := tm_lo a; have hb := tm_lo b
  have HA := Lib.hid (fun w => rtime_any a w); have HB := Lib.hid (fun w => rtime_any b w)
  generalize tm a = x at *
  generalize tm b = y at *
  by_cases hx : x = -1
  · subst hx
    by_cases hy : y = -1
    · subst hy
      go_enter Try.func40, Try.ntmps40
      go_wp2_with fail
      refine (HA.out _).mono ?_
      rintro e w' ⟨rfl, rfl⟩
      go_wp2_with fail
      refine (HB.out _).mono ?_
      rintro e w' ⟨rfl, rfl⟩
      go_wp2_with fail
      go_ret
      exact ⟨rfl, rfl⟩
    · have hy' : (y == -1) = false := by rw [beq_eq_false_iff_ne]; exact hy
      have e : earlierT (-1) y = y := by unfold earlierT; simp
      rw [e]; clear e hy
      go_enter Try.func40, Try.ntmps40
      go_wp2_with fail
      refine (HA.out _).mono ?_
      rintro e w' ⟨rfl, rfl⟩
      go_wp2_with fail
      refine (HB.out _).mono ?_
      rintro e w' ⟨rfl, rfl⟩
      go_wp2_with fail
      go_ret
      exact ⟨rfl, rfl⟩
  · have hx' : (x == -1) = false := by rw [beq_eq_false_iff_ne]; exact hx
    by_cases hy : y = -1
    · subst hy
      have e : earlierT x (-1) = x := by unfold earlierT; simp [hx]
      rw [e]; clear e hx
      go_enter Try.func40, Try.ntmps40
      go_wp2_with fail
      refine (HA.out _).mono ?_
      rintro e w' ⟨rfl, rfl⟩
      go_wp2_with fail
      refine (HB.out _).mono ?_
      rintro e w' ⟨rfl, rfl⟩
      go_wp2_with fail
      go_ret
      exact ⟨rfl, rfl⟩
    · have hy' : (y == -1) = false := by rw [beq_eq_false_iff_ne]; exact hy
      have hy2 : (y != -1) = true := by rw [bne_iff_ne]; exact hy
      have e : earlierT x y = min x y := by unfold earlierT; simp [hx, hy]
      rw [e]; clear e
      by_cases hlt : y < x
      · have e : min x y = y := by omega
        rw [e]; clear e hx hy
        go_enter Try.func40, Try.ntmps40
        go_wp2_with fail
        refine (HA.out _).mono ?_
        rintro e w' ⟨rfl, rfl⟩
        go_wp2_with fail
        refine (HB.out _).mono ?_
        rintro e w' ⟨rfl, rfl⟩
        go_wp2_with fail
        go_ret
        exact ⟨ret_int (by omega), rfl⟩
      · have e : min x y = x := by omega
        rw [e]; clear e hx hy
        go_enter Try.func40, Try.ntmps40
        go_wp2_with fail
        refine (HA.out _).mono ?_
        rintro e w' ⟨rfl, rfl⟩
        go_wp2_with fail
        refine (HB.out _).mono ?_
        rintro e w' ⟨rfl, rfl⟩
        go_wp2_with fail
        go_ret
        exact ⟨ret_int (by omega), rfl⟩
set_option maxHeartbeats 400000 in
theorem rlater_any (a b : Int) (w : World) :
    Calls Try.prog 42 #[.int .i64 a, .int .i64 b] w fun e w' => e = .returned (.int .i64 (later a b)) ∧ w = w' := by
  rw [later_tm]
  have ha := tm_lo a; have hb := tm_lo b
  have HA := Lib.hid (fun w => rtime_any a w); have HB := Lib.hid (fun w => rtime_any b w)
  generalize tm a = x at *
  generalize tm b = y at *
  by_cases hx : x = -1
  · subst hx
    by_cases hy : y = -1
    · subst hy
      go_enter Try.func42, Try.ntmps42
      go_wp2_with fail
      refine (HA.out _).mono ?_
      rintro e w' ⟨rfl, rfl⟩
      go_wp2_with fail
      refine (HB.out _).mono ?_
      rintro e w' ⟨rfl, rfl⟩
      go_wp2_with fail
      go_ret
      exact ⟨rfl, rfl⟩
    · have hy' : (y == -1) = false := by rw [beq_eq_false_iff_ne]; exact hy
      have e : laterT (-1) y = -1 := by unfold laterT; simp
      rw [e]; clear e hy
      go_enter Try.func42, Try.ntmps42
      go_wp2_with fail
      refine (HA.out _).mono ?_
      rintro e w' ⟨rfl, rfl⟩
      go_wp2_with fail
      refine (HB.out _).mono ?_
      rintro e w' ⟨rfl, rfl⟩
      go_wp2_with fail
      go_ret
      exact ⟨rfl, rfl⟩
  · have hx' : (x == -1) = false := by rw [beq_eq_false_iff_ne]; exact hx
    by_cases hy : y = -1
    · subst hy
      have e : laterT x (-1) = -1 := by unfold laterT; simp [hx]
      rw [e]; clear e hx
      go_enter Try.func42, Try.ntmps42
      go_wp2_with fail
      refine (HA.out _).mono ?_
      rintro e w' ⟨rfl, rfl⟩
      go_wp2_with fail
      refine (HB.out _).mono ?_
      rintro e w' ⟨rfl, rfl⟩
      go_wp2_with fail
      go_ret
      exact ⟨rfl, rfl⟩
    · have hy' : (y == -1) = false := by rw [beq_eq_false_iff_ne]; exact hy
      have hy2 : (y != -1) = true := by rw [bne_iff_ne]; exact hy
      have e : laterT x y = max x y := by unfold laterT; simp [hx, hy]
      rw [e]; clear e
      by_cases hlt : y < x
      · have e : max x y = x := by omega
        rw [e]; clear e hx hy
        go_enter Try.func42, Try.ntmps42
        go_wp2_with fail
        refine (HA.out _).mono ?_
        rintro e w' ⟨rfl, rfl⟩
        go_wp2_with fail
        refine (HB.out _).mono ?_
        rintro e w' ⟨rfl, rfl⟩
        go_wp2_with fail
        go_ret
        exact ⟨ret_int (by omega), rfl⟩
      · have e : max x y = y := by omega
        rw [e]; clear e hx hy
        go_enter Try.func42, Try.ntmps42
        go_wp2_with fail
        refine (HA.out _).mono ?_
        rintro e w' ⟨rfl, rfl⟩
        go_wp2_with fail
        refine (HB.out _).mono ?_
        rintro e w' ⟨rfl, rfl⟩
        go_wp2_with fail
        go_ret
        exact ⟨ret_int (by omega), rfl⟩
set_option maxHeartbeats 400000 in
theorem rends_any (a b : Int) (w : World) :
    Calls Try.prog 44 #[.int .i64 a, .int .i64 b] w fun e w' => e = .returned (.int .i64 (ends a b)) ∧ w = w' := by
  rcases hb : isNum a with _ | _
  · rw [ends_no hb]
    have HT := Lib.hid (fun w => rtime_any a w)
    rw [tm_no hb] at HT
    go_enter Try.func44, Try.ntmps44
    go_wp2_with (go_at_call 90; refine (HT.out _).mono ?_; rintro e w' ⟨rfl, rfl⟩)
    go_ret
    exact ⟨rfl, rfl⟩
  · rw [ends_yes hb]
    have HT := Lib.hid (fun w => rtime_any a w)
    rw [tm_yes hb] at HT
    have ha : (a == -1) = false := by rw [beq_eq_false_iff_ne]; have := isNum_true hb; omega
    go_enter Try.func44, Try.ntmps44
    go_wp2_with (first | (go_at_call 90; refine (HT.out _).mono ?_; rintro e w' ⟨rfl, rfl⟩) | (go_at_call 50; refine (radd_any _ _ _).mono ?_; rintro e w' ⟨rfl, rfl⟩))
    go_ret
    exact ⟨rfl, rfl⟩
end Go.Proofs.Ytnmekhgilekofaa
