/- The walk of SatAnswers. -/
import Derived.Test.YtcholjdbmmgakaaWorksA
import Derived.Test.YtcholjdbmmgakaaOpen
namespace Go.Proofs.Ytcholjdbmmgakaa
open Go.RowKit Sat

set_option maxHeartbeats 1000000 in
theorem satAnswers_walk (a0 : Int) (_h0 : okI a0) (a1 : Int) (_h1 : okI a1) (a2 : Int) (_h2 : okI a2) (w : World) :
    Calls Try.prog 3 #[.int .i64 a0, .int .i64 a1, .int .i64 a2] w fun e w' => e = .returned (.bool true) ∧ Below w.heap.size w w' := by
  have g := Gr.refl w
  go_enter Try.func3, Try.ntmps3
  go_wp2_with (first | (go_at_call 28; refine (is_any _ _).mono ?_; rintro e w' ⟨rfl, rfl⟩) | (go_at_call 29; refine (ris_any _ _).mono ?_; rintro e w' ⟨rfl, rfl⟩) | (go_at_call 30; refine (num_any _ _).mono ?_; rintro e w' ⟨rfl, rfl⟩) | (go_at_call 31; refine (rnum_any _ _).mono ?_; rintro e w' ⟨rfl, rfl⟩) | (go_at_call 32; refine (add_any _ _ _).mono ?_; rintro e w' ⟨rfl, rfl⟩) | (go_at_call 33; refine (radd_any _ _ _).mono ?_; rintro e w' ⟨rfl, rfl⟩) | (go_at_call 34; refine (sub_any _ _ _).mono ?_; rintro e w' ⟨rfl, rfl⟩) | (go_at_call 35; refine (rsub_any _ _ _).mono ?_; rintro e w' ⟨rfl, rfl⟩) | (go_at_call 36; refine (mul_gr _ _ (by assumption)).mono ?_; rintro e w' ⟨rfl, _⟩) | (go_at_call 37; refine (rmul_any _ _ _).mono ?_; rintro e w' ⟨rfl, rfl⟩) | (go_at_call 38; refine (mulRest_gr _ _ _ (by assumption)).mono ?_; rintro e w' ⟨rfl, _⟩) | (go_at_call 39; refine (rmulRest_any _ _ _ _).mono ?_; rintro e w' ⟨rfl, rfl⟩) | (go_at_call 40; refine (mulDiv_gr _ _ _ (by assumption)).mono ?_; rintro e w' ⟨rfl, _⟩) | (go_at_call 41; refine (rmulDiv_any _ _ _ _).mono ?_; rintro e w' ⟨rfl, rfl⟩) | (go_at_call 42; refine (mulUp_gr _ _ _ (by assumption)).mono ?_; rintro e w' ⟨rfl, _⟩) | (go_at_call 43; refine (rmulUp_any _ _ _ _).mono ?_; rintro e w' ⟨rfl, rfl⟩) | (go_at_call 44; refine (works1_any (by assumption)).mono ?_; rintro e w' ⟨rfl, _⟩))
  go_ret
  rename_i h
  exact ⟨rfl, h.1⟩

end Go.Proofs.Ytcholjdbmmgakaa
