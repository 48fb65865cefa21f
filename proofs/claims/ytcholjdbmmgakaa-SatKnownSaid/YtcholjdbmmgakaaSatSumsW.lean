/- The walk of SatSums. -/
import Derived.Test.YtcholjdbmmgakaaWorksA
import Derived.Test.YtcholjdbmmgakaaSumMath
import Derived.Test.YtcholjdbmmgakaaOpen
namespace Go.Proofs.Ytcholjdbmmgakaa
open Go.RowKit Sat

set_option maxHeartbeats 1000000 in
theorem satSums_walk (a0 : Int) (_h0 : okI a0) (a1 : Int) (_h1 : okI a1) (a2 : Int) (_h2 : okI a2) (w : World) :
    Calls Try.prog 5 #[.int .i64 a0, .int .i64 a1, .int .i64 a2] w fun e w' => e = .returned (.bool true) ∧ Below w.heap.size w w' := by
  have g := Gr.refl w
  have H1 := add_comm' a0 a1; have H2 := add_assoc' a0 a1 a2
  have H3 := mul_comm' a0 a1; have H4 := mul_assoc' a0 a1 a2
  have H5 := sub_self' a0; have H6 := mul_one' a0; have H7 := mul_zero' a0; have H8 := add_zero' a0
  have H9 := sub_add a0 a1
  obtain ⟨s, hs⟩ : ∃ s, add a0 a1 = s := ⟨_, rfl⟩
  obtain ⟨p, hp⟩ : ∃ p, mul a0 a1 = p := ⟨_, rfl⟩
  obtain ⟨t, ht⟩ : ∃ t, add a1 a2 = t := ⟨_, rfl⟩
  obtain ⟨q, hq⟩ : ∃ q, mul a1 a2 = q := ⟨_, rfl⟩
  rw [hs] at H1 H2 H9; rw [hp] at H3 H4; rw [ht] at H2; rw [hq] at H4
  obtain ⟨v, hv⟩ : ∃ v, add s a2 = v := ⟨_, rfl⟩
  obtain ⟨z, hz⟩ : ∃ z, mul p a2 = z := ⟨_, rfl⟩
  rw [hv] at H2; rw [hz] at H4
  have H1' := H1.symm; have H2' := H2.symm; have H3' := H3.symm; have H4' := H4.symm
  clear H1 H2 H3 H4
  by_cases hb : s = 9007199254740991
  · have hb' : (s == 9007199254740991) = true := by rw [beq_iff_eq]; exact hb
    clear H9 hb
    go_enter Try.func5, Try.ntmps5
    go_wp2_with (first | (go_at_call 30; refine (num_any _ _).mono ?_; rintro e w' ⟨rfl, rfl⟩) | (go_at_call 32; refine (add_any _ _ _).mono ?_; rintro e w' ⟨rfl, rfl⟩) | (go_at_call 34; refine (sub_any _ _ _).mono ?_; rintro e w' ⟨rfl, rfl⟩) | (go_at_call 36; refine (mul_gr _ _ (by assumption)).mono ?_; rintro e w' ⟨rfl, _⟩) | (go_at_call 44; refine (works1_any (by assumption)).mono ?_; rintro e w' ⟨rfl, _⟩))
    go_ret
    rename_i h
    exact ⟨rfl, h.1⟩
  · have H10 := H9 hb
    have hb' : (s == 9007199254740991) = false := by rw [beq_eq_false_iff_ne]; exact hb
    clear H9 hb
    go_enter Try.func5, Try.ntmps5
    go_wp2_with (first | (go_at_call 30; refine (num_any _ _).mono ?_; rintro e w' ⟨rfl, rfl⟩) | (go_at_call 32; refine (add_any _ _ _).mono ?_; rintro e w' ⟨rfl, rfl⟩) | (go_at_call 34; refine (sub_any _ _ _).mono ?_; rintro e w' ⟨rfl, rfl⟩) | (go_at_call 36; refine (mul_gr _ _ (by assumption)).mono ?_; rintro e w' ⟨rfl, _⟩) | (go_at_call 44; refine (works1_any (by assumption)).mono ?_; rintro e w' ⟨rfl, _⟩))
    go_ret
    rename_i h
    exact ⟨rfl, h.1⟩

end Go.Proofs.Ytcholjdbmmgakaa
