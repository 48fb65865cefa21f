/- Plain numbers: what a limit answers. No program but the names of what the contracts say. -/
import Derived.Test.YtcholjdbmmgakaaAmplC
import Derived.Test.YtcholjdbmmgakaaSumMath
namespace Go.Proofs.Ytcholjdbmmgakaa
open Go.RowKit Sat

theorem gotE_yes {n : Int} (h0 : 0 ≤ n) (h1 : n ≤ 65535) : gotE n = 0 := by unfold gotE; rw [isSz_yes h0 h1]; rfl
theorem gotG_yes {g n : Int} (h0 : 0 ≤ n) (h1 : n ≤ 65535) (g0 : 0 ≤ g) (g1 : g + n ≤ 9007199254740991) : gotG g n = g + n := by
  unfold gotG; rw [isSz_yes h0 h1]; simp only [if_true]; unfold add; rw [num_id g0 (by omega), num_id h0 (by omega), num_id (by omega) g1]
theorem mul3 {g : Int} (g0 : 0 ≤ g) (g1 : g ≤ 3002399751580330) : mul 3 g = 3 * g := by
  rw [mul_def, num_id g0 (by omega), show num 3 = 3 from by decide, num_id (by omega) (by omega)]
theorem left_f {g s : Int} (g0 : 0 ≤ g) (g1 : g ≤ 3002399751580330) (s0 : 0 ≤ s) (s1 : s ≤ 3 * g) : leftOf g s false = 3 * g - s := by
  show sub (mul 3 g) s = _
  rw [mul3 g0 g1]; unfold sub; rw [num_id (by omega : 0 ≤ 3 * g) (by omega), num_id s0 (by omega), num_id (by omega) (by omega)]
theorem left_t (g s : Int) : leftOf g s true = 9007199254740991 := rfl
theorem sentE_yes {g s n : Int} {v : Bool} (h0 : 0 ≤ n) (h1 : n ≤ 65535) (h : n ≤ leftOf g s v) : sentE g s v n = 0 := by
  unfold sentE; rw [isSz_yes h0 h1, if_pos rfl, if_neg (by omega)]
theorem sentE_much {g s n : Int} {v : Bool} (h0 : 0 ≤ n) (h1 : n ≤ 65535) (h : leftOf g s v < n) : sentE g s v n = 212 := by
  unfold sentE; rw [isSz_yes h0 h1, if_pos rfl, if_pos h]
theorem sentS_yes {g s n : Int} {v : Bool} (h0 : 0 ≤ n) (h1 : n ≤ 65535) (h : n ≤ leftOf g s v) (s0 : 0 ≤ s) (s1 : s + n ≤ 9007199254740991) : sentS g s v n = s + n := by
  unfold sentS; rw [isSz_yes h0 h1, if_pos rfl, if_neg (by omega)]; unfold add; rw [num_id s0 (by omega), num_id h0 (by omega), num_id (by omega) s1]
theorem sentS_much {g s n : Int} {v : Bool} (h0 : 0 ≤ n) (h1 : n ≤ 65535) (h : leftOf g s v < n) : sentS g s v n = s := by
  unfold sentS; rw [isSz_yes h0 h1, if_pos rfl, if_pos h]

end Go.Proofs.Ytcholjdbmmgakaa
