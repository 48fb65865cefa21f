/- The walk of PaceSteady. -/
import Derived.Test.YtcholjdbmmgakaaPaceLeft
namespace Go.Proofs.Ytcholjdbmmgakaa
open Go.RowKit Sat

set_option maxRecDepth 100000 in
set_option maxHeartbeats 2000000 in
theorem paceSteady_walk (c : Int) (hc : okI c) (m : Int) (hm : okI m) (k : Int) (hk : okI k) (w : World) :
    Calls Try.prog 26 #[.int .i64 c, .int .i64 m, .int .i64 k] w fun e w' => e = .returned (.bool true) ∧ Below w.heap.size w w' := by
  obtain ⟨c0, c1⟩ := bring_bd c 262144 (by omega)
  obtain ⟨m0, m1⟩ := bring_bd m 1099511627776 (by omega)
  obtain ⟨k0, k1⟩ := bring_bd k 20 (by omega)
  have HC := Lib.hid (fun w => bring_any c 262144 w hc (by omega) (by omega))
  have HM := Lib.hid (fun w => bring_any m 1099511627776 w hm (by omega) (by omega))
  have HK := Lib.hid (fun w => bring_any k 20 w hk (by omega) (by omega))
  obtain ⟨C, hC⟩ : ∃ C, c % 262144 = C := ⟨_, rfl⟩
  obtain ⟨M, hM⟩ : ∃ M, m % 1099511627776 = M := ⟨_, rfl⟩
  obtain ⟨K, hK⟩ : ∃ K, k % 20 = K := ⟨_, rfl⟩
  rw [hC] at HC c0 c1
  rw [hM] at HM m0 m1
  rw [hK] at HK k0 k1
  clear hC hM hK hc hm hk
  have p0 : 0 ≤ (1 + M) * (1 + K) := Int.mul_nonneg (by omega) (by omega)
  have p1 : (1 + M) * (1 + K) ≤ 1099511627776 * 20 := Int.mul_le_mul (by omega) (by omega) (by omega) (by omega)
  have r0 : 0 ≤ 5 * (1 + C) * (1 + K) := Int.mul_nonneg (by omega) (by omega)
  have r1 : 5 * (1 + C) * (1 + K) ≤ 5 * 262144 * 20 := Int.mul_le_mul (by omega) (by omega) (by omega) (by omega)
  have st := leftV_steady (c := 1 + C) (m := 1 + M) (k := 1 + K) (by omega) (by omega) (by omega) (by omega) (by omega) (by omega)
  have HL := Lib.hid (fun w => left14_any 8388608 (1 + C) (1 + M) ((1 + M) * (1 + K)) w (by omega) (by omega) ⟨by omega, by omega⟩ (by omega) (by omega) p0 (by omega))
  rw [st] at HL
  clear st
  go_enter Try.func26, Try.ntmps26
  go_wp2_with (first | (go_at_call_has 57 (Value.int .i64 c); refine (HC.out _).mono ?_; rintro e w' ⟨rfl, rfl⟩) | (go_at_call_has 57 (Value.int .i64 m); refine (HM.out _).mono ?_; rintro e w' ⟨rfl, rfl⟩) | (go_at_call_has 57 (Value.int .i64 k); refine (HK.out _).mono ?_; rintro e w' ⟨rfl, rfl⟩) | (go_at_call 104; refine (HL.out _).mono ?_; rintro e wl ⟨rfl, bl⟩; have GL := Lib.hid ((Gr.refl w).step bl); clear bl) | (go_at_call 91; refine (works14_any GL.out).mono ?_; rintro e wz ⟨rfl, hz⟩))
  go_ret
  exact ⟨rfl, hz.1⟩

end Go.Proofs.Ytcholjdbmmgakaa
