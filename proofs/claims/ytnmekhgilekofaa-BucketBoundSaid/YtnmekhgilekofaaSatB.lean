/- What MulDiv, MulRest, MulUp, Mul and the functions on times of package sat answer: one contract each. -/
import Derived.Test.YtnmekhgilekofaaParts
namespace Go.Proofs.Ytnmekhgilekofaa
open Go.RowKit Sat

set_option maxHeartbeats 400000 in
theorem back_any (n : Int) (w : World) :
    Calls Try.prog 94 #[.int .u64 n] w fun e w' => e = .returned (.int .i64 (num n)) ∧ w = w' := by
  have a0 := num_lo n; have a1 := num_hi n
  have e : max 0 (min n 9007199254740991) = num n := rfl
  go_enter Try.func94, Try.ntmps94
  go_wp2_with (go_at_call 101; refine (clampU_any _ _ _ _).mono ?_; rintro e w' ⟨rfl, rfl⟩)
  go_ret
  exact ⟨rfl, rfl⟩
set_option maxHeartbeats 400000 in
theorem mulDiv_yes_w (a b c : Int) (w : World) (hf : num a * num b / 18446744073709551616 < num c) :
    Calls Try.prog 57 #[.int .i64 a, .int .i64 b, .int .i64 c] w fun e w' => e = .returned (.int .i64 (mulDiv a b c)) ∧ Below w.heap.size w w' := by
  rw [mulDiv_yes a b c hf]
  have HP := Lib.hid (fun w => parts_yes a b c w hf)
  clear hf
  generalize num a * num b / num c = Q at *
  generalize num a * num b % num c = R at *
  go_enter Try.func57, Try.ntmps57
  go_wp2_with fail
  refine (HP.out _).mono ?_
  rintro e w' ⟨rfl, hb⟩
  have HB := Lib.hid hb; clear hb
  go_wp2_with (go_at_call 94; refine (back_any _ _).mono ?_; rintro e w' ⟨rfl, rfl⟩)
  go_ret
  exact ⟨rfl, HB.out⟩
set_option maxHeartbeats 400000 in
theorem mulDiv_no_w (a b c : Int) (w : World) (hf : num c ≤ num a * num b / 18446744073709551616) :
    Calls Try.prog 57 #[.int .i64 a, .int .i64 b, .int .i64 c] w fun e w' => e = .returned (.int .i64 (mulDiv a b c)) ∧ Below w.heap.size w w' := by
  rw [mulDiv_no a b c hf]
  go_enter Try.func57, Try.ntmps57
  go_wp2_with fail
  refine (parts_no a b c _ hf).mono ?_
  rintro e w' ⟨rfl, hb⟩
  have HB := Lib.hid hb; clear hb
  go_wp2_with fail
  go_ret
  exact ⟨rfl, HB.out⟩
theorem mulDiv_any (a b c : Int) (w : World) :
    Calls Try.prog 57 #[.int .i64 a, .int .i64 b, .int .i64 c] w fun e w' => e = .returned (.int .i64 (mulDiv a b c)) ∧ Below w.heap.size w w' := by
  rcases Int.lt_or_le (num a * num b / 18446744073709551616) (num c) with h | h
  · exact mulDiv_yes_w a b c w h
  · exact mulDiv_no_w a b c w h

set_option maxHeartbeats 400000 in
theorem mul_any (a b : Int) (w : World) :
    Calls Try.prog 53 #[.int .i64 a, .int .i64 b] w fun e w' => e = .returned (.int .i64 (mul a b)) ∧ Below w.heap.size w w' := by
  go_enter Try.func53, Try.ntmps53
  go_wp2_with (go_at_call 57; refine (mulDiv_any _ _ _ _).mono ?_; rintro e w' ⟨rfl, hb⟩)
  go_ret
  exact ⟨rfl, hb⟩
set_option maxHeartbeats 400000 in
theorem mulRest_small_w (a b c : Int) (w : World) (hf : num a * num b / 18446744073709551616 < num c) (hg : num a * num b / num c ≤ 9007199254740991) :
    Calls Try.prog 55 #[.int .i64 a, .int .i64 b, .int .i64 c] w fun e w' => e = .returned (.tuple #[.int .i64 (mulDiv a b c), .int .i64 (mulLeft a b c)]) ∧ Below w.heap.size w w' := by
  obtain ⟨e1, e2⟩ := mulRest_small a b c hf hg
  rw [e1, e2]; clear e1 e2
  have q0 := quo_lo a b c
  have r0 := rest_lo a b c (fits_pos a b c hf)
  have r1 := rest_hi a b c (fits_pos a b c hf)
  have c1 := num_hi c
  have hg' : ¬ 9007199254740991 < num a * num b / num c := by omega
  have HP := Lib.hid (fun w => parts_yes a b c w hf)
  clear hf
  generalize num a * num b / num c = Q at *
  generalize num a * num b % num c = R at *
  go_enter Try.func55, Try.ntmps55
  go_wp2_with fail
  refine (HP.out _).mono ?_
  rintro e w' ⟨rfl, hb⟩
  have HB := Lib.hid hb; clear hb
  go_wp2_with fail
  go_ret2
  exact ⟨rfl, HB.out⟩
set_option maxHeartbeats 400000 in
theorem mulRest_big_w (a b c : Int) (w : World) (hf : num a * num b / 18446744073709551616 < num c) (hg : 9007199254740991 < num a * num b / num c) :
    Calls Try.prog 55 #[.int .i64 a, .int .i64 b, .int .i64 c] w fun e w' => e = .returned (.tuple #[.int .i64 (mulDiv a b c), .int .i64 (mulLeft a b c)]) ∧ Below w.heap.size w w' := by
  obtain ⟨e1, e2⟩ := mulRest_big a b c hf hg
  rw [e1, e2]; clear e1 e2
  have HP := Lib.hid (fun w => parts_yes a b c w hf)
  clear hf
  generalize num a * num b / num c = Q at *
  generalize num a * num b % num c = R at *
  go_enter Try.func55, Try.ntmps55
  go_wp2_with fail
  refine (HP.out _).mono ?_
  rintro e w' ⟨rfl, hb⟩
  have HB := Lib.hid hb; clear hb
  go_wp2_with fail
  go_ret2
  exact ⟨rfl, HB.out⟩
set_option maxHeartbeats 400000 in
theorem mulRest_no_w (a b c : Int) (w : World) (hf : num c ≤ num a * num b / 18446744073709551616) :
    Calls Try.prog 55 #[.int .i64 a, .int .i64 b, .int .i64 c] w fun e w' => e = .returned (.tuple #[.int .i64 (mulDiv a b c), .int .i64 (mulLeft a b c)]) ∧ Below w.heap.size w w' := by
  rw [mulDiv_no a b c hf, mulLeft_no a b c hf]
  go_enter Try.func55, Try.ntmps55
  go_wp2_with fail
  refine (parts_no a b c _ hf).mono ?_
  rintro e w' ⟨rfl, hb⟩
  have HB := Lib.hid hb; clear hb
  go_wp2_with fail
  go_ret2
  exact ⟨rfl, HB.out⟩
theorem mulRest_any (a b c : Int) (w : World) :
    Calls Try.prog 55 #[.int .i64 a, .int .i64 b, .int .i64 c] w fun e w' => e = .returned (.tuple #[.int .i64 (mulDiv a b c), .int .i64 (mulLeft a b c)]) ∧ Below w.heap.size w w' := by
  rcases Int.lt_or_le (num a * num b / 18446744073709551616) (num c) with h | h
  · rcases Int.lt_or_le 9007199254740991 (num a * num b / num c) with g | g
    · exact mulRest_big_w a b c w h g
    · exact mulRest_small_w a b c w h g
  · exact mulRest_no_w a b c w h

set_option maxHeartbeats 400000 in
theorem mulUp_pos_w (a b c : Int) (w : World) (hf : num a * num b / 18446744073709551616 < num c) (hg : 0 < num a * num b % num c) :
    Calls Try.prog 59 #[.int .i64 a, .int .i64 b, .int .i64 c] w fun e w' => e = .returned (.int .i64 (mulUp a b c)) ∧ Below w.heap.size w w' := by
  rw [mulUp_yes_pos a b c hf hg]
  have HP := Lib.hid (fun w => parts_yes a b c w hf)
  clear hf
  generalize num a * num b / num c = Q at *
  generalize num a * num b % num c = R at *
  go_enter Try.func59, Try.ntmps59
  go_wp2_with fail
  refine (HP.out _).mono ?_
  rintro e w' ⟨rfl, hb⟩
  have HB := Lib.hid hb; clear hb
  have n0 := num_lo Q; have n1 := num_hi Q
  go_wp2_with (first | (go_at_call 94; refine (back_any _ _).mono ?_; rintro e w' ⟨rfl, rfl⟩) | (go_at_call 48; refine (num_any _ _).mono ?_; rintro e w' ⟨rfl, rfl⟩))
  go_ret
  exact ⟨rfl, HB.out⟩
set_option maxHeartbeats 400000 in
theorem mulUp_zero_w (a b c : Int) (w : World) (hf : num a * num b / 18446744073709551616 < num c) (hg : num a * num b % num c = 0) :
    Calls Try.prog 59 #[.int .i64 a, .int .i64 b, .int .i64 c] w fun e w' => e = .returned (.int .i64 (mulUp a b c)) ∧ Below w.heap.size w w' := by
  rw [mulUp_yes_zero a b c hf hg]
  have HP := Lib.hid (fun w => parts_yes a b c w hf)
  clear hf
  generalize num a * num b / num c = Q at *
  generalize num a * num b % num c = R at *
  go_enter Try.func59, Try.ntmps59
  go_wp2_with fail
  refine (HP.out _).mono ?_
  rintro e w' ⟨rfl, hb⟩
  have HB := Lib.hid hb; clear hb
  go_wp2_with (go_at_call 94; refine (back_any _ _).mono ?_; rintro e w' ⟨rfl, rfl⟩)
  go_ret
  exact ⟨rfl, HB.out⟩
set_option maxHeartbeats 400000 in
theorem mulUp_no_w (a b c : Int) (w : World) (hf : num c ≤ num a * num b / 18446744073709551616) :
    Calls Try.prog 59 #[.int .i64 a, .int .i64 b, .int .i64 c] w fun e w' => e = .returned (.int .i64 (mulUp a b c)) ∧ Below w.heap.size w w' := by
  rw [mulUp_no a b c hf]
  go_enter Try.func59, Try.ntmps59
  go_wp2_with fail
  refine (parts_no a b c _ hf).mono ?_
  rintro e w' ⟨rfl, hb⟩
  have HB := Lib.hid hb; clear hb
  go_wp2_with fail
  go_ret
  exact ⟨rfl, HB.out⟩
theorem mulUp_any (a b c : Int) (w : World) :
    Calls Try.prog 59 #[.int .i64 a, .int .i64 b, .int .i64 c] w fun e w' => e = .returned (.int .i64 (mulUp a b c)) ∧ Below w.heap.size w w' := by
  rcases Int.lt_or_le (num a * num b / 18446744073709551616) (num c) with h | h
  · rcases Int.lt_or_le 0 (num a * num b % num c) with g | g
    · exact mulUp_pos_w a b c w h g
    · exact mulUp_zero_w a b c w h (by have := rest_lo a b c (fits_pos a b c h); omega)
  · exact mulUp_no_w a b c w h

set_option maxHeartbeats 400000 in
theorem isTime_any (a : Int) (w : World) :
    Calls Try.prog 37 #[.int .i64 a] w fun e w' => e = .returned (.bool (isTime a)) ∧ w = w' := by
  by_cases h : a = -1
  · subst h
    go_enter Try.func37, Try.ntmps37
    go_wp2_with fail
    go_ret
    exact ⟨rfl, rfl⟩
  · have h' : (a == -1) = false := by rw [beq_eq_false_iff_ne]; exact h
    clear h
    go_enter Try.func37, Try.ntmps37
    go_wp2_with (go_at_call 46; refine (is_any _ _).mono ?_; rintro e w' ⟨rfl, rfl⟩)
    all_goals go_ret
    all_goals exact ⟨ret_bool (by unfold isTime; rw [h']; rfl), rfl⟩
set_option maxHeartbeats 400000 in
theorem risTime_any (a : Int) (w : World) :
    Calls Try.prog 38 #[.int .i64 a] w fun e w' => e = .returned (.bool (isTime a)) ∧ w = w' := by
  by_cases h : a = -1
  · subst h
    go_enter Try.func38, Try.ntmps38
    go_wp2_with fail
    go_ret
    exact ⟨rfl, rfl⟩
  · have h' : (a == -1) = false := by rw [beq_eq_false_iff_ne]; exact h
    clear h
    go_enter Try.func38, Try.ntmps38
    go_wp2_with (go_at_call 47; refine (ris_any _ _).mono ?_; rintro e w' ⟨rfl, rfl⟩)
    all_goals go_ret
    all_goals exact ⟨ret_bool (by unfold isTime; rw [h']; rfl), rfl⟩
set_option maxHeartbeats 400000 in
theorem rank_any (a : Int) (w : World) :
    Calls Try.prog 89 #[.int .i64 a] w fun e w' => e = .returned (.int .u64 (rank a)) ∧ w = w' := by
  rcases hb : isNum a with _ | _
  · rw [rank_no hb]
    go_enter Try.func89, Try.ntmps89
    go_wp2_with (go_at_call 46; refine (is_any _ _).mono ?_; rintro e w' ⟨rfl, rfl⟩)
    go_ret
    exact ⟨rfl, rfl⟩
  · rw [rank_yes hb]
    obtain ⟨h0, h1⟩ := isNum_true hb
    go_enter Try.func89, Try.ntmps89
    go_wp2_with (go_at_call 46; refine (is_any _ _).mono ?_; rintro e w' ⟨rfl, rfl⟩)
    go_ret
    exact ⟨rfl, rfl⟩
set_option maxHeartbeats 400000 in
theorem time_any (n : Int) (w : World) (h0 : 0 ≤ n) (hn : n ≤ 9007199254740991 ∨ n = 18446744073709551615) :
    Calls Try.prog 88 #[.int .u64 n] w fun e w' => e = .returned (.int .i64 (unrank n)) ∧ w = w' := by
  unfold unrank
  by_cases h : n = 18446744073709551615
  · subst h
    rw [if_pos rfl]
    go_enter Try.func88, Try.ntmps88
    go_wp2
    go_ret
    exact ⟨rfl, rfl⟩
  · rw [if_neg h]
    have h' : (n == 18446744073709551615) = false := by rw [beq_eq_false_iff_ne]; exact h
    have g : n ≤ 9007199254740991 := by omega
    clear h hn
    go_enter Try.func88, Try.ntmps88
    go_wp2
    go_ret
    exact ⟨rfl, rfl⟩
set_option maxHeartbeats 400000 in
theorem earlier_any (a b : Int) (w : World) :
    Calls Try.prog 39 #[.int .i64 a, .int .i64 b] w fun e w' => e = .returned (.int .i64 (earlier a b)) ∧ w = w' := by
  have a0 := rank_lo a; have a1 := rank_hi a; have b0 := rank_lo b; have b1 := rank_hi b; have a2 := rank_mid a; have b2 := rank_mid b
  have HT := Lib.hid (fun w => time_any (min (rank a) (rank b)) w (by omega) (by omega))
  clear a2 b2
  go_enter Try.func39, Try.ntmps39
  go_wp2_with (first | (go_at_call 89; refine (rank_any _ _).mono ?_; rintro e w' ⟨rfl, rfl⟩) | (go_at_call 88; refine (HT.out _).mono ?_; rintro e w' ⟨rfl, rfl⟩))
  go_ret
  exact ⟨rfl, rfl⟩
set_option maxHeartbeats 400000 in
theorem later_any (a b : Int) (w : World) :
    Calls Try.prog 41 #[.int .i64 a, .int .i64 b] w fun e w' => e = .returned (.int .i64 (later a b)) ∧ w = w' := by
  have a0 := rank_lo a; have a1 := rank_hi a; have b0 := rank_lo b; have b1 := rank_hi b; have a2 := rank_mid a; have b2 := rank_mid b
  have HT := Lib.hid (fun w => time_any (max (rank a) (rank b)) w (by omega) (by omega))
  clear a2 b2
  go_enter Try.func41, Try.ntmps41
  go_wp2_with (first | (go_at_call 89; refine (rank_any _ _).mono ?_; rintro e w' ⟨rfl, rfl⟩) | (go_at_call 88; refine (HT.out _).mono ?_; rintro e w' ⟨rfl, rfl⟩))
  go_ret
  exact ⟨rfl, rfl⟩
set_option maxHeartbeats 400000 in
theorem ends_any (a b : Int) (w : World) :
    Calls Try.prog 43 #[.int .i64 a, .int .i64 b] w fun e w' => e = .returned (.int .i64 (ends a b)) ∧ w = w' := by
  rcases hb : isNum a with _ | _
  · rw [ends_no hb]
    go_enter Try.func43, Try.ntmps43
    go_wp2_with (go_at_call 46; refine (is_any _ _).mono ?_; rintro e w' ⟨rfl, rfl⟩)
    go_ret
    exact ⟨rfl, rfl⟩
  · rw [ends_yes hb]
    go_enter Try.func43, Try.ntmps43
    go_wp2_with (first | (go_at_call 46; refine (is_any _ _).mono ?_; rintro e w' ⟨rfl, rfl⟩) | (go_at_call 45; refine (add_any _ _ _).mono ?_; rintro e w' ⟨rfl, rfl⟩))
    go_ret
    exact ⟨rfl, rfl⟩
end Go.Proofs.Ytnmekhgilekofaa
