/- sounderlaw13.rate: a rate out of two numbers. -/
import Derived.Test.YtnmekhgilekofaaBuckW
import Derived.Test.YtnmekhgilekofaaBuckMathB
import Derived.Deep.RegionWith
namespace Go.Proofs.Ytnmekhgilekofaa
open Go.RowKit Sat

theorem bring_bd (i n : Int) (hn : 0 < n) : 0 ≤ i % n ∧ i % n < n := ⟨Int.emod_nonneg _ (by omega), Int.emod_lt_of_pos _ hn⟩
set_option maxRecDepth 100000 in
set_option maxHeartbeats 1600000 in
theorem rate_any (x0 x1 : Int) (w : World) (h0 : okI x0) (h1 : okI x1) : Calls Try.prog 28 #[.agg #[.int .i64 x0, .int .i64 x1]] w fun e w' => e = .returned (.agg #[.int .i64 (x0 % 16777216), .int .i64 (1 + x1 % 1073741824)]) ∧ Below w.heap.size w w' := by
  have H0 := Lib.hid (fun w => bring_any x0 16777216 w h0 (by omega) (by omega))
  have H1 := Lib.hid (fun w => bring_any x1 1073741824 w h1 (by omega) (by omega))
  obtain ⟨a0, a1⟩ := bring_bd x0 16777216 (by omega)
  obtain ⟨b0, b1⟩ := bring_bd x1 1073741824 (by omega)
  obtain ⟨p, hp⟩ : ∃ p, x0 % 16777216 = p := ⟨_, rfl⟩
  obtain ⟨q, hq⟩ : ∃ q, x1 % 1073741824 = q := ⟨_, rfl⟩
  rw [hp] at H0 a0 a1
  rw [hq] at H1 b0 b1
  rw [hp, hq]
  have hw := wrap_i64 (1 + q) (by omega) (by omega)
  clear hp hq h0 h1
  go_enter Try.func28, Try.ntmps28
  go_wp2_with fail
  go_region_with (first | (go_at_call_of 26 (Value.int .i64 x0); refine (H0.out _).mono ?_; rintro e w' ⟨rfl, rfl⟩) | (go_at_call_of 26 (Value.int .i64 x1); refine (H1.out _).mono ?_; rintro e w' ⟨rfl, rfl⟩))
  all_goals go_wp2_with fail
  all_goals refine bodyPost_ret (v := .agg #[.int .i64 p, .int .i64 (1 + q)]) ?_ rfl ⟨rfl, ?_⟩
  all_goals first | exact (((Below.refl _ _).alloc (Nat.le_refl _) _).alloc (by simp) _).drew | simp [results, Try.results28, go_sem]

theorem cell_rt0 {K : Nat} {x y : Int} {w : World} (h : Rt K x y w) : w.cell? ⟨K, 0, none⟩ = some (.int .i64 x) := cellOf h rfl
theorem cell_rt1 {K : Nat} {x y : Int} {w : World} (h : Rt K x y w) : w.cell? ⟨K, 1, none⟩ = some (.int .i64 y) := cellOf h rfl
/-! The contracts with what is answered written out. -/
section
variable {a : Nat} {s s' : BS} {B : Nat} {w0 w : World}
theorem take_e {k : Int} (E : Int) (he : s.takeE k = E) (hs : s.taken k = s') (h : BW a s B w0 w) : Calls Try.prog 31 #[.pointer (some ⟨a, 0, none⟩), .int .i64 k] w fun e w' => e = .returned (.int .i64 E) ∧ BW a s' B w0 w' ∧ Ch a w w' :=
  (take_bw k h).mono fun _ _ ⟨h1, h2, h3⟩ => ⟨he ▸ h1, hs ▸ h2, h3⟩
theorem fill_e {t p q : Int} (E : Int) (he : s.fillE t p q = E) (hs : s.filled t p q = s') (h : BW a s B w0 w) : Calls Try.prog 29 #[.pointer (some ⟨a, 0, none⟩), .int .i64 t, .agg #[.int .i64 p, .int .i64 q]] w fun e w' => e = .returned (.int .i64 E) ∧ BW a s' B w0 w' ∧ Ch a w w' :=
  (fill_bw t p q h).mono fun _ _ ⟨h1, h2, h3⟩ => ⟨he ▸ h1, hs ▸ h2, h3⟩
theorem when_e {k p q : Int} (E : Int) (he : s.when k p q = E) (h : BW a s B w0 w) : Calls Try.prog 36 #[.pointer (some ⟨a, 0, none⟩), .int .i64 k, .agg #[.int .i64 p, .int .i64 q]] w fun e w' => e = .returned (.int .i64 E) ∧ BW a s B w0 w' ∧ Ch a w w' :=
  (when_bw k p q h).mono fun _ _ ⟨h1, h2, h3⟩ => ⟨he ▸ h1, h2, h3⟩
theorem tokens_e (v : Int) (hv : s.n = v) (h : BW a s B w0 w) : Calls Try.prog 30 #[.pointer (some ⟨a, 0, none⟩)] w fun e w' => e = .returned (.int .i64 v) ∧ w = w' := hv ▸ tokens_bw h
theorem rest_e (v : Int) (hv : s.r = v) (h : BW a s B w0 w) : Calls Try.prog 33 #[.pointer (some ⟨a, 0, none⟩)] w fun e w' => e = .returned (.int .i64 v) ∧ w = w' := hv ▸ rest_bw h
theorem time_e (v : Int) (hv : s.t = v) (h : BW a s B w0 w) : Calls Try.prog 34 #[.pointer (some ⟨a, 0, none⟩)] w fun e w' => e = .returned (.int .i64 v) ∧ w = w' := hv ▸ time_bw h
end

end Go.Proofs.Ytnmekhgilekofaa
