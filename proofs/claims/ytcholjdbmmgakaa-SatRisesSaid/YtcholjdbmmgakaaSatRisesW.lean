/- The walk of SatRises. -/
import Derived.Test.YtcholjdbmmgakaaKit
import Derived.Test.YtcholjdbmmgakaaRiseMath
import Derived.Test.YtcholjdbmmgakaaOpen
import Derived.BigQuiet
import Derived.Deep.QuietTactic
namespace Go.Proofs.Ytcholjdbmmgakaa
open Go.RowKit Sat

theorem num_any' (n : Int) (w : World) : Calls Try.prog 30 #[.int .i64 n] w fun e w' => e = .returned (.int .i64 (num n)) ∧ w' = w := (num_any n w).mono fun _ _ ⟨h, g⟩ => ⟨h, g.symm⟩
theorem add_any' (a b : Int) (w : World) : Calls Try.prog 32 #[.int .i64 a, .int .i64 b] w fun e w' => e = .returned (.int .i64 (add a b)) ∧ w' = w := (add_any a b w).mono fun _ _ ⟨h, g⟩ => ⟨h, g.symm⟩
set_option maxHeartbeats 1000000 in
theorem satRises_walk (a0 : Int) (_h0 : okI a0) (a1 : Int) (_h1 : okI a1) (m0 m1 : Int) (_g0 : okI m0) (_g1 : okI m1) (w : World) :
    Calls Try.prog 6 #[.int .i64 a0, .int .i64 a1, .agg #[.int .i64 m0, .int .i64 m1]] w fun e w' => e = .returned (.bool true) ∧ Below w.heap.size w w' := by
  have g := (Gr.refl w).alloc (.cells #[.int .i64 m0, .int .i64 m1] 33 (0, 0))
  have l := add_more a0 m0
  obtain ⟨C, hC⟩ : ∃ C, max 1 (num m1) = C := ⟨_, rfl⟩
  have hC0 : num C ≠ 0 := by have := num_hi m1; unfold num; unfold num at hC; omega
  have e1 := add_mono (num a1) l
  have e2 := mul_mono (num a1) l
  have e3 := sub_mono (num a1) l
  have e4 := sub_anti (num a1) l
  have e5 := mulDiv_mono (num a1) C l
  have e6 := mulUp_mono (num a1) C hC0 l
  have e7 := mulDiv_anti (num a1) C (add_one_ne (num a0)) (add_mono 1 l)
  clear hC0 l
  obtain ⟨X, hX⟩ : ∃ X, add (num a0) m0 = X := ⟨_, rfl⟩
  rw [hX] at e1 e2 e3 e4 e5 e6 e7
  go_enter Try.func6, Try.ntmps6
  go_wp2_with (first | (go_at_call 30; refine (num_any _ _).mono ?_; rintro e w' ⟨rfl, rfl⟩) | (go_at_call 32; refine (add_any _ _ _).mono ?_; rintro e w' ⟨rfl, rfl⟩) | (go_at_call 34; refine (sub_any _ _ _).mono ?_; rintro e w' ⟨rfl, rfl⟩) | (go_at_call 36; refine (mul_gr _ _ (by first | assumption | exact Gr.drewN (by assumption) _)).mono ?_; rintro e w' ⟨rfl, _⟩) | (go_at_call 40; refine (mulDiv_gr _ _ _ (by first | assumption | exact Gr.drewN (by assumption) _)).mono ?_; rintro e w' ⟨rfl, _⟩) | (go_at_call 42; refine (mulUp_gr _ _ _ (by first | assumption | exact Gr.drewN (by assumption) _)).mono ?_; rintro e w' ⟨rfl, _⟩) | (go_at_call 44; refine (works1_any (by first | assumption | exact Gr.drewN (by assumption) _)).mono ?_; rintro e w' ⟨rfl, _⟩))
  go_quiet ((first | (go_at_call 30; exact Calls.quiet_of_same (num_any' _ _)) | (go_at_call 32; exact Calls.quiet_of_same (add_any' _ _ _))))
  go_wp2_with (first | (go_at_call 30; refine (num_any _ _).mono ?_; rintro e w' ⟨rfl, rfl⟩) | (go_at_call 32; refine (add_any _ _ _).mono ?_; rintro e w' ⟨rfl, rfl⟩) | (go_at_call 34; refine (sub_any _ _ _).mono ?_; rintro e w' ⟨rfl, rfl⟩) | (go_at_call 36; refine (mul_gr _ _ (by first | assumption | exact Gr.drewN (by assumption) _)).mono ?_; rintro e w' ⟨rfl, _⟩) | (go_at_call 40; refine (mulDiv_gr _ _ _ (by first | assumption | exact Gr.drewN (by assumption) _)).mono ?_; rintro e w' ⟨rfl, _⟩) | (go_at_call 42; refine (mulUp_gr _ _ _ (by first | assumption | exact Gr.drewN (by assumption) _)).mono ?_; rintro e w' ⟨rfl, _⟩) | (go_at_call 44; refine (works1_any (by first | assumption | exact Gr.drewN (by assumption) _)).mono ?_; rintro e w' ⟨rfl, _⟩))
  go_ret
  rename_i h
  exact ⟨rfl, h.1⟩

end Go.Proofs.Ytcholjdbmmgakaa
