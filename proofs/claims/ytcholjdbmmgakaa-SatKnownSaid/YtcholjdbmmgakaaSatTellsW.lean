/- The walk of SatTells. -/
import Derived.Test.YtcholjdbmmgakaaWorksA
import Derived.Test.YtcholjdbmmgakaaOpen
namespace Go.Proofs.Ytcholjdbmmgakaa
open Go.RowKit Sat

set_option maxHeartbeats 1000000 in
theorem satTells_walk (a0 : Int) (_h0 : okI a0) (a1 : Int) (_h1 : okI a1) (w : World) :
    Calls Try.prog 7 #[.int .i64 a0, .int .i64 a1] w fun e w' => e = .returned (.bool true) ∧ Below w.heap.size w w' := by
  have g := Gr.refl w
  go_enter Try.func7, Try.ntmps7
  go_wp2_with (first | (go_at_call 47; refine (isTime_any _ _).mono ?_; rintro e w' ⟨rfl, rfl⟩) | (go_at_call 48; refine (risTime_any _ _).mono ?_; rintro e w' ⟨rfl, rfl⟩) | (go_at_call 49; refine (earlier_any _ _ _).mono ?_; rintro e w' ⟨rfl, rfl⟩) | (go_at_call 50; refine (rearlier_any _ _ _).mono ?_; rintro e w' ⟨rfl, rfl⟩) | (go_at_call 51; refine (later_any _ _ _).mono ?_; rintro e w' ⟨rfl, rfl⟩) | (go_at_call 52; refine (rlater_any _ _ _).mono ?_; rintro e w' ⟨rfl, rfl⟩) | (go_at_call 53; refine (ends_any _ _ _).mono ?_; rintro e w' ⟨rfl, rfl⟩) | (go_at_call 54; refine (rends_any _ _ _).mono ?_; rintro e w' ⟨rfl, rfl⟩) | (go_at_call 44; refine (works1_any (by assumption)).mono ?_; rintro e w' ⟨rfl, _⟩))
  go_ret
  rename_i h
  exact ⟨rfl, h.1⟩

end Go.Proofs.Ytcholjdbmmgakaa
