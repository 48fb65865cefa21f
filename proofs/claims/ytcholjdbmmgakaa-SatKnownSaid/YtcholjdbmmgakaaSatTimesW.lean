/- The walk of SatTimes. -/
import Derived.Test.YtcholjdbmmgakaaKit
import Derived.Test.YtcholjdbmmgakaaRiseMath
import Derived.Test.YtcholjdbmmgakaaOpen
import Derived.BigQuiet
import Derived.Deep.QuietTactic
namespace Go.Proofs.Ytcholjdbmmgakaa
open Go.RowKit Sat

theorem ends_any' (a b : Int) (w : World) : Calls Try.prog 53 #[.int .i64 a, .int .i64 b] w fun e w' => e = .returned (.int .i64 (ends a b)) ∧ w' = w := (ends_any a b w).mono fun _ _ ⟨h, g⟩ => ⟨h, g.symm⟩
theorem isTime_neg1 : isTime (-1) = true := rfl
theorem isTime_num {a : Int} (h : 0 ≤ a ∧ a ≤ 9007199254740991) : isTime a = true := by unfold isTime; rw [isNum_yes h.1 h.2]; simp
theorem time3 (a : Int) : (0 ≤ a ∧ a ≤ 9007199254740991) ∨ a = -1 ∨ isTime a = false := by
  by_cases h : 0 ≤ a ∧ a ≤ 9007199254740991
  · exact Or.inl h
  · by_cases g : a = -1
    · exact Or.inr (Or.inl g)
    · refine Or.inr (Or.inr ?_)
      have h1 : isNum a = false := decide_eq_false h
      have h2 : (a == -1) = false := by rw [beq_eq_false_iff_ne]; exact g
      unfold isTime; rw [h1, h2]; rfl

set_option maxHeartbeats 1000000 in
theorem times_NNle (a b : Int) (ha : 0 ≤ a ∧ a ≤ 9007199254740991) (hb : 0 ≤ b ∧ b ≤ 9007199254740991) (hab : a ≤ b) (m0 m1 : Int) (w : World) :
    Calls Try.prog 8 #[.int .i64 (a), .int .i64 (b), .agg #[.int .i64 m0, .int .i64 m1]] w fun e w' => e = .returned (.bool true) ∧ Below w.heap.size w w' := by
  have g := Gr.alloc (Gr.refl w) (.cells #[.int .i64 m0, .int .i64 m1] 33 (0, 0))
  have ta := isTime_num ha
  have tb := isTime_num hb
  have tE : earlier a b = a := (earlier_num ha hb).trans (by omega)
  have tL : later a b = b := (later_num ha hb).trans (by omega)
  obtain ⟨c1, c2, c3, c4⟩ := ends_core a b m0 m1 (Or.inr ha) (Or.inr hb) (Or.inr ⟨ha.1, hab⟩)
  have n1 : (a == -1) = false := by rw [beq_eq_false_iff_ne]; omega
  have n2 : (b != -1) = true := by rw [bne_iff_ne]; omega
  have n3 : ¬ b < a := by omega
  go_enter Try.func8, Try.ntmps8
  go_wp2_with (first | (go_at_call 47; refine (isTime_any _ _).mono ?_; rintro e w' ⟨rfl, rfl⟩) | (go_at_call 49; refine (earlier_any _ _ _).mono ?_; rintro e w' ⟨rfl, rfl⟩) | (go_at_call 51; refine (later_any _ _ _).mono ?_; rintro e w' ⟨rfl, rfl⟩))
  go_quiet ((go_at_call 53; exact Calls.quiet_of_same (ends_any' _ _ _)))
  go_wp2_with (first | (go_at_call 49; refine (earlier_any _ _ _).mono ?_; rintro e w' ⟨rfl, rfl⟩) | (go_at_call 53; refine (ends_any _ _ _).mono ?_; rintro e w' ⟨rfl, rfl⟩) | (go_at_call 44; refine (works1_any (by first | exact Gr.drewN g _)).mono ?_; rintro e w' ⟨rfl, _⟩) | (go_at_call 32; refine (add_any _ _ _).mono ?_; rintro e w' ⟨rfl, rfl⟩))
  go_ret
  rename_i h
  exact ⟨rfl, h.1⟩
set_option maxHeartbeats 1000000 in
theorem times_NNgt (a b : Int) (ha : 0 ≤ a ∧ a ≤ 9007199254740991) (hb : 0 ≤ b ∧ b ≤ 9007199254740991) (hab : b < a) (m0 m1 : Int) (w : World) :
    Calls Try.prog 8 #[.int .i64 (a), .int .i64 (b), .agg #[.int .i64 m0, .int .i64 m1]] w fun e w' => e = .returned (.bool true) ∧ Below w.heap.size w w' := by
  have g := Gr.alloc (Gr.refl w) (.cells #[.int .i64 m0, .int .i64 m1] 33 (0, 0))
  have ta := isTime_num ha
  have tb := isTime_num hb
  have tE : earlier a b = b := (earlier_num ha hb).trans (by omega)
  have tL : later a b = a := (later_num ha hb).trans (by omega)
  obtain ⟨c1, c2, c3, c4⟩ := ends_core b a m0 m1 (Or.inr hb) (Or.inr ha) (Or.inr ⟨hb.1, by omega⟩)
  have n0 : (b == a) = false := by rw [beq_eq_false_iff_ne]; omega
  have n1 : (b == -1) = false := by rw [beq_eq_false_iff_ne]; omega
  have n2 : (a != -1) = true := by rw [bne_iff_ne]; omega
  have n3 : ¬ a < b := by omega
  go_enter Try.func8, Try.ntmps8
  go_wp2_with (first | (go_at_call 47; refine (isTime_any _ _).mono ?_; rintro e w' ⟨rfl, rfl⟩) | (go_at_call 49; refine (earlier_any _ _ _).mono ?_; rintro e w' ⟨rfl, rfl⟩) | (go_at_call 51; refine (later_any _ _ _).mono ?_; rintro e w' ⟨rfl, rfl⟩))
  go_quiet ((go_at_call 53; exact Calls.quiet_of_same (ends_any' _ _ _)))
  go_wp2_with (first | (go_at_call 49; refine (earlier_any _ _ _).mono ?_; rintro e w' ⟨rfl, rfl⟩) | (go_at_call 53; refine (ends_any _ _ _).mono ?_; rintro e w' ⟨rfl, rfl⟩) | (go_at_call 44; refine (works1_any (by first | exact Gr.drewN g _)).mono ?_; rintro e w' ⟨rfl, _⟩) | (go_at_call 32; refine (add_any _ _ _).mono ?_; rintro e w' ⟨rfl, rfl⟩))
  go_ret
  rename_i h
  exact ⟨rfl, h.1⟩
set_option maxHeartbeats 1000000 in
theorem times_NT (a : Int) (ha : 0 ≤ a ∧ a ≤ 9007199254740991) (m0 m1 : Int) (w : World) :
    Calls Try.prog 8 #[.int .i64 (a), .int .i64 (-1), .agg #[.int .i64 m0, .int .i64 m1]] w fun e w' => e = .returned (.bool true) ∧ Below w.heap.size w w' := by
  have g := Gr.alloc (Gr.refl w) (.cells #[.int .i64 m0, .int .i64 m1] 33 (0, 0))
  have ta := isTime_num ha
  have tb := isTime_neg1
  have tE : earlier a (-1) = a := earlier_neg' ha
  have tL : later a (-1) = (-1) := later_neg' ha
  obtain ⟨c1, c2, c3, c4⟩ := ends_core a (-1) m0 m1 (Or.inr ha) (Or.inl rfl) (Or.inl rfl)
  have n1 : (a == -1) = false := by rw [beq_eq_false_iff_ne]; omega
  go_enter Try.func8, Try.ntmps8
  go_wp2_with (first | (go_at_call 47; refine (isTime_any _ _).mono ?_; rintro e w' ⟨rfl, rfl⟩) | (go_at_call 49; refine (earlier_any _ _ _).mono ?_; rintro e w' ⟨rfl, rfl⟩) | (go_at_call 51; refine (later_any _ _ _).mono ?_; rintro e w' ⟨rfl, rfl⟩))
  go_quiet ((go_at_call 53; exact Calls.quiet_of_same (ends_any' _ _ _)))
  go_wp2_with (first | (go_at_call 49; refine (earlier_any _ _ _).mono ?_; rintro e w' ⟨rfl, rfl⟩) | (go_at_call 53; refine (ends_any _ _ _).mono ?_; rintro e w' ⟨rfl, rfl⟩) | (go_at_call 44; refine (works1_any (by first | exact Gr.drewN g _)).mono ?_; rintro e w' ⟨rfl, _⟩) | (go_at_call 32; refine (add_any _ _ _).mono ?_; rintro e w' ⟨rfl, rfl⟩))
  go_ret
  rename_i h
  exact ⟨rfl, h.1⟩
set_option maxHeartbeats 1000000 in
theorem times_NF (a b : Int) (ha : 0 ≤ a ∧ a ≤ 9007199254740991) (tb : isTime b = false) (m0 m1 : Int) (w : World) :
    Calls Try.prog 8 #[.int .i64 (a), .int .i64 (b), .agg #[.int .i64 m0, .int .i64 m1]] w fun e w' => e = .returned (.bool true) ∧ Below w.heap.size w w' := by
  have g := Gr.alloc (Gr.refl w) (.cells #[.int .i64 m0, .int .i64 m1] 33 (0, 0))
  have ta := isTime_num ha
  have tE : earlier a (-1) = a := earlier_neg' ha
  have tL : later a (-1) = (-1) := later_neg' ha
  obtain ⟨c1, c2, c3, c4⟩ := ends_core a (-1) m0 m1 (Or.inr ha) (Or.inl rfl) (Or.inl rfl)
  have n1 : (a == -1) = false := by rw [beq_eq_false_iff_ne]; omega
  go_enter Try.func8, Try.ntmps8
  go_wp2_with (first | (go_at_call 47; refine (isTime_any _ _).mono ?_; rintro e w' ⟨rfl, rfl⟩) | (go_at_call 49; refine (earlier_any _ _ _).mono ?_; rintro e w' ⟨rfl, rfl⟩) | (go_at_call 51; refine (later_any _ _ _).mono ?_; rintro e w' ⟨rfl, rfl⟩))
  go_quiet ((go_at_call 53; exact Calls.quiet_of_same (ends_any' _ _ _)))
  go_wp2_with (first | (go_at_call 49; refine (earlier_any _ _ _).mono ?_; rintro e w' ⟨rfl, rfl⟩) | (go_at_call 53; refine (ends_any _ _ _).mono ?_; rintro e w' ⟨rfl, rfl⟩) | (go_at_call 44; refine (works1_any (by first | exact Gr.drewN g _)).mono ?_; rintro e w' ⟨rfl, _⟩) | (go_at_call 32; refine (add_any _ _ _).mono ?_; rintro e w' ⟨rfl, rfl⟩))
  go_ret
  rename_i h
  exact ⟨rfl, h.1⟩
set_option maxHeartbeats 1000000 in
theorem times_TN (b : Int) (hb : 0 ≤ b ∧ b ≤ 9007199254740991) (m0 m1 : Int) (w : World) :
    Calls Try.prog 8 #[.int .i64 (-1), .int .i64 (b), .agg #[.int .i64 m0, .int .i64 m1]] w fun e w' => e = .returned (.bool true) ∧ Below w.heap.size w w' := by
  have g := Gr.alloc (Gr.refl w) (.cells #[.int .i64 m0, .int .i64 m1] 33 (0, 0))
  have ta := isTime_neg1
  have tb := isTime_num hb
  have tE : earlier (-1) b = b := earlier_neg hb
  have tL : later (-1) b = (-1) := later_neg hb
  obtain ⟨c1, c2, c3, c4⟩ := ends_core b (-1) m0 m1 (Or.inr hb) (Or.inl rfl) (Or.inl rfl)
  have n1 : (b == -1) = false := by rw [beq_eq_false_iff_ne]; omega
  go_enter Try.func8, Try.ntmps8
  go_wp2_with (first | (go_at_call 47; refine (isTime_any _ _).mono ?_; rintro e w' ⟨rfl, rfl⟩) | (go_at_call 49; refine (earlier_any _ _ _).mono ?_; rintro e w' ⟨rfl, rfl⟩) | (go_at_call 51; refine (later_any _ _ _).mono ?_; rintro e w' ⟨rfl, rfl⟩))
  go_quiet ((go_at_call 53; exact Calls.quiet_of_same (ends_any' _ _ _)))
  go_wp2_with (first | (go_at_call 49; refine (earlier_any _ _ _).mono ?_; rintro e w' ⟨rfl, rfl⟩) | (go_at_call 53; refine (ends_any _ _ _).mono ?_; rintro e w' ⟨rfl, rfl⟩) | (go_at_call 44; refine (works1_any (by first | exact Gr.drewN g _)).mono ?_; rintro e w' ⟨rfl, _⟩) | (go_at_call 32; refine (add_any _ _ _).mono ?_; rintro e w' ⟨rfl, rfl⟩))
  go_ret
  rename_i h
  exact ⟨rfl, h.1⟩
set_option maxHeartbeats 1000000 in
theorem times_TT (m0 m1 : Int) (w : World) :
    Calls Try.prog 8 #[.int .i64 (-1), .int .i64 (-1), .agg #[.int .i64 m0, .int .i64 m1]] w fun e w' => e = .returned (.bool true) ∧ Below w.heap.size w w' := by
  have g := Gr.alloc (Gr.refl w) (.cells #[.int .i64 m0, .int .i64 m1] 33 (0, 0))
  have ta := isTime_neg1
  have tb := isTime_neg1
  have tE : earlier (-1) (-1) = (-1) := earlier_nn
  have tL : later (-1) (-1) = (-1) := later_nn
  obtain ⟨c1, c2, c3, c4⟩ := ends_core (-1) (-1) m0 m1 (Or.inl rfl) (Or.inl rfl) (Or.inl rfl)
  go_enter Try.func8, Try.ntmps8
  go_wp2_with (first | (go_at_call 47; refine (isTime_any _ _).mono ?_; rintro e w' ⟨rfl, rfl⟩) | (go_at_call 49; refine (earlier_any _ _ _).mono ?_; rintro e w' ⟨rfl, rfl⟩) | (go_at_call 51; refine (later_any _ _ _).mono ?_; rintro e w' ⟨rfl, rfl⟩))
  go_quiet ((go_at_call 53; exact Calls.quiet_of_same (ends_any' _ _ _)))
  go_wp2_with (first | (go_at_call 49; refine (earlier_any _ _ _).mono ?_; rintro e w' ⟨rfl, rfl⟩) | (go_at_call 53; refine (ends_any _ _ _).mono ?_; rintro e w' ⟨rfl, rfl⟩) | (go_at_call 44; refine (works1_any (by first | exact Gr.drewN g _)).mono ?_; rintro e w' ⟨rfl, _⟩) | (go_at_call 32; refine (add_any _ _ _).mono ?_; rintro e w' ⟨rfl, rfl⟩))
  go_ret
  rename_i h
  exact ⟨rfl, h.1⟩
set_option maxHeartbeats 1000000 in
theorem times_TF (b : Int) (tb : isTime b = false) (m0 m1 : Int) (w : World) :
    Calls Try.prog 8 #[.int .i64 (-1), .int .i64 (b), .agg #[.int .i64 m0, .int .i64 m1]] w fun e w' => e = .returned (.bool true) ∧ Below w.heap.size w w' := by
  have g := Gr.alloc (Gr.refl w) (.cells #[.int .i64 m0, .int .i64 m1] 33 (0, 0))
  have ta := isTime_neg1
  have tE : earlier (-1) (-1) = (-1) := earlier_nn
  have tL : later (-1) (-1) = (-1) := later_nn
  obtain ⟨c1, c2, c3, c4⟩ := ends_core (-1) (-1) m0 m1 (Or.inl rfl) (Or.inl rfl) (Or.inl rfl)
  go_enter Try.func8, Try.ntmps8
  go_wp2_with (first | (go_at_call 47; refine (isTime_any _ _).mono ?_; rintro e w' ⟨rfl, rfl⟩) | (go_at_call 49; refine (earlier_any _ _ _).mono ?_; rintro e w' ⟨rfl, rfl⟩) | (go_at_call 51; refine (later_any _ _ _).mono ?_; rintro e w' ⟨rfl, rfl⟩))
  go_quiet ((go_at_call 53; exact Calls.quiet_of_same (ends_any' _ _ _)))
  go_wp2_with (first | (go_at_call 49; refine (earlier_any _ _ _).mono ?_; rintro e w' ⟨rfl, rfl⟩) | (go_at_call 53; refine (ends_any _ _ _).mono ?_; rintro e w' ⟨rfl, rfl⟩) | (go_at_call 44; refine (works1_any (by first | exact Gr.drewN g _)).mono ?_; rintro e w' ⟨rfl, _⟩) | (go_at_call 32; refine (add_any _ _ _).mono ?_; rintro e w' ⟨rfl, rfl⟩))
  go_ret
  rename_i h
  exact ⟨rfl, h.1⟩
set_option maxHeartbeats 1000000 in
theorem times_FN (a b : Int) (ta : isTime a = false) (hb : 0 ≤ b ∧ b ≤ 9007199254740991) (m0 m1 : Int) (w : World) :
    Calls Try.prog 8 #[.int .i64 (a), .int .i64 (b), .agg #[.int .i64 m0, .int .i64 m1]] w fun e w' => e = .returned (.bool true) ∧ Below w.heap.size w w' := by
  have g := Gr.alloc (Gr.refl w) (.cells #[.int .i64 m0, .int .i64 m1] 33 (0, 0))
  have tb := isTime_num hb
  have tE : earlier (-1) b = b := earlier_neg hb
  have tL : later (-1) b = (-1) := later_neg hb
  obtain ⟨c1, c2, c3, c4⟩ := ends_core b (-1) m0 m1 (Or.inr hb) (Or.inl rfl) (Or.inl rfl)
  have n1 : (b == -1) = false := by rw [beq_eq_false_iff_ne]; omega
  go_enter Try.func8, Try.ntmps8
  go_wp2_with (first | (go_at_call 47; refine (isTime_any _ _).mono ?_; rintro e w' ⟨rfl, rfl⟩) | (go_at_call 49; refine (earlier_any _ _ _).mono ?_; rintro e w' ⟨rfl, rfl⟩) | (go_at_call 51; refine (later_any _ _ _).mono ?_; rintro e w' ⟨rfl, rfl⟩))
  go_quiet ((go_at_call 53; exact Calls.quiet_of_same (ends_any' _ _ _)))
  go_wp2_with (first | (go_at_call 49; refine (earlier_any _ _ _).mono ?_; rintro e w' ⟨rfl, rfl⟩) | (go_at_call 53; refine (ends_any _ _ _).mono ?_; rintro e w' ⟨rfl, rfl⟩) | (go_at_call 44; refine (works1_any (by first | exact Gr.drewN g _)).mono ?_; rintro e w' ⟨rfl, _⟩) | (go_at_call 32; refine (add_any _ _ _).mono ?_; rintro e w' ⟨rfl, rfl⟩))
  go_ret
  rename_i h
  exact ⟨rfl, h.1⟩
set_option maxHeartbeats 1000000 in
theorem times_FT (a : Int) (ta : isTime a = false) (m0 m1 : Int) (w : World) :
    Calls Try.prog 8 #[.int .i64 (a), .int .i64 (-1), .agg #[.int .i64 m0, .int .i64 m1]] w fun e w' => e = .returned (.bool true) ∧ Below w.heap.size w w' := by
  have g := Gr.alloc (Gr.refl w) (.cells #[.int .i64 m0, .int .i64 m1] 33 (0, 0))
  have tb := isTime_neg1
  have tE : earlier (-1) (-1) = (-1) := earlier_nn
  have tL : later (-1) (-1) = (-1) := later_nn
  obtain ⟨c1, c2, c3, c4⟩ := ends_core (-1) (-1) m0 m1 (Or.inl rfl) (Or.inl rfl) (Or.inl rfl)
  go_enter Try.func8, Try.ntmps8
  go_wp2_with (first | (go_at_call 47; refine (isTime_any _ _).mono ?_; rintro e w' ⟨rfl, rfl⟩) | (go_at_call 49; refine (earlier_any _ _ _).mono ?_; rintro e w' ⟨rfl, rfl⟩) | (go_at_call 51; refine (later_any _ _ _).mono ?_; rintro e w' ⟨rfl, rfl⟩))
  go_quiet ((go_at_call 53; exact Calls.quiet_of_same (ends_any' _ _ _)))
  go_wp2_with (first | (go_at_call 49; refine (earlier_any _ _ _).mono ?_; rintro e w' ⟨rfl, rfl⟩) | (go_at_call 53; refine (ends_any _ _ _).mono ?_; rintro e w' ⟨rfl, rfl⟩) | (go_at_call 44; refine (works1_any (by first | exact Gr.drewN g _)).mono ?_; rintro e w' ⟨rfl, _⟩) | (go_at_call 32; refine (add_any _ _ _).mono ?_; rintro e w' ⟨rfl, rfl⟩))
  go_ret
  rename_i h
  exact ⟨rfl, h.1⟩
set_option maxHeartbeats 1000000 in
theorem times_FF (a b : Int) (ta : isTime a = false) (tb : isTime b = false) (m0 m1 : Int) (w : World) :
    Calls Try.prog 8 #[.int .i64 (a), .int .i64 (b), .agg #[.int .i64 m0, .int .i64 m1]] w fun e w' => e = .returned (.bool true) ∧ Below w.heap.size w w' := by
  have g := Gr.alloc (Gr.refl w) (.cells #[.int .i64 m0, .int .i64 m1] 33 (0, 0))
  have tE : earlier (-1) (-1) = (-1) := earlier_nn
  have tL : later (-1) (-1) = (-1) := later_nn
  obtain ⟨c1, c2, c3, c4⟩ := ends_core (-1) (-1) m0 m1 (Or.inl rfl) (Or.inl rfl) (Or.inl rfl)
  go_enter Try.func8, Try.ntmps8
  go_wp2_with (first | (go_at_call 47; refine (isTime_any _ _).mono ?_; rintro e w' ⟨rfl, rfl⟩) | (go_at_call 49; refine (earlier_any _ _ _).mono ?_; rintro e w' ⟨rfl, rfl⟩) | (go_at_call 51; refine (later_any _ _ _).mono ?_; rintro e w' ⟨rfl, rfl⟩))
  go_quiet ((go_at_call 53; exact Calls.quiet_of_same (ends_any' _ _ _)))
  go_wp2_with (first | (go_at_call 49; refine (earlier_any _ _ _).mono ?_; rintro e w' ⟨rfl, rfl⟩) | (go_at_call 53; refine (ends_any _ _ _).mono ?_; rintro e w' ⟨rfl, rfl⟩) | (go_at_call 44; refine (works1_any (by first | exact Gr.drewN g _)).mono ?_; rintro e w' ⟨rfl, _⟩) | (go_at_call 32; refine (add_any _ _ _).mono ?_; rintro e w' ⟨rfl, rfl⟩))
  go_ret
  rename_i h
  exact ⟨rfl, h.1⟩
theorem satTimes_walk (a0 : Int) (_h0 : okI a0) (a1 : Int) (_h1 : okI a1) (m0 m1 : Int) (_g0 : okI m0) (_g1 : okI m1) (w : World) :
    Calls Try.prog 8 #[.int .i64 a0, .int .i64 a1, .agg #[.int .i64 m0, .int .i64 m1]] w fun e w' => e = .returned (.bool true) ∧ Below w.heap.size w w' := by
  rcases time3 a0 with h | rfl | h <;> rcases time3 a1 with g | rfl | g
  · rcases Int.lt_or_le a1 a0 with l | l
    · exact times_NNgt a0 a1 h g l m0 m1 w
    · exact times_NNle a0 a1 h g l m0 m1 w
  · exact times_NT a0 h m0 m1 w
  · exact times_NF a0 a1 h g m0 m1 w
  · exact times_TN a1 g m0 m1 w
  · exact times_TT m0 m1 w
  · exact times_TF a1 g m0 m1 w
  · exact times_FN a0 a1 h g m0 m1 w
  · exact times_FT a0 h m0 m1 w
  · exact times_FF a0 a1 h g m0 m1 w

end Go.Proofs.Ytcholjdbmmgakaa
