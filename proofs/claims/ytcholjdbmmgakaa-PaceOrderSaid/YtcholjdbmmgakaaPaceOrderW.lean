/- The walk of PaceOrder. -/
import Derived.Test.YtcholjdbmmgakaaPaceLeft
namespace Go.Proofs.Ytcholjdbmmgakaa
open Go.RowKit Sat

set_option maxRecDepth 100000 in
set_option maxHeartbeats 4000000 in
theorem paceOrder_walk (u : Int) (hu : okI u) (x0 x1 x2 x3 : Int) (hx0 : okI x0) (hx1 : okI x1) (hx2 : okI x2) (hx3 : okI x3) (t : Int) (ht : okI t) (w : World) :
    Calls Try.prog 25 #[.int .i64 u, .agg #[.int .i64 x0, .int .i64 x1, .int .i64 x2, .int .i64 x3], .int .i64 t] w fun e w' => e = .returned (.bool true) ∧ Below w.heap.size w w' := by
  obtain ⟨u0, u1⟩ := bring_bd u 1073741824 (by omega)
  obtain ⟨t0, t1⟩ := bring_bd t 9007199254740992 (by omega)
  obtain ⟨c0, c1⟩ := bring_bd x0 1099511627776 (by omega)
  obtain ⟨m0, m1⟩ := bring_bd x1 9007199254740992 (by omega)
  have HU := Lib.hid (fun w => bring_any u 1073741824 w hu (by omega) (by omega))
  have HT := Lib.hid (fun w => bring_any t 9007199254740992 w ht (by omega) (by omega))
  have HC := Lib.hid (fun w => bring_any x0 1099511627776 w hx0 (by omega) (by omega))
  have HM := Lib.hid (fun w => bring_any x1 9007199254740992 w hx1 (by omega) (by omega))
  obtain ⟨U, hU⟩ : ∃ U, u % 1073741824 = U := ⟨_, rfl⟩
  obtain ⟨T, hT⟩ : ∃ T, t % 9007199254740992 = T := ⟨_, rfl⟩
  obtain ⟨C, hC⟩ : ∃ C, x0 % 1099511627776 = C := ⟨_, rfl⟩
  obtain ⟨M, hM⟩ : ∃ M, x1 % 9007199254740992 = M := ⟨_, rfl⟩
  rw [hU] at HU u0 u1
  rw [hT] at HT t0 t1
  rw [hC] at HC c0 c1
  rw [hM] at HM m0 m1
  clear hU hT hC hM hu ht hx0 hx1
  have e1 : 1099511627776 - (1 + C) + 1 = 1099511627776 - C := by omega
  obtain ⟨j0, j1⟩ := bring_bd x2 (1099511627776 - (1 + C) + 1) (by omega)
  obtain ⟨l0, l1⟩ := bring_bd x3 (9007199254740992 - M) (by omega)
  have HJ := Lib.hid (fun w => bring_any x2 (1099511627776 - (1 + C) + 1) w hx2 (by omega) (by omega))
  have HL := Lib.hid (fun w => bring_any x3 (9007199254740992 - M) w hx3 (by omega) (by omega))
  obtain ⟨J, hJ⟩ : ∃ J, x2 % (1099511627776 - (1 + C) + 1) = J := ⟨_, rfl⟩
  obtain ⟨L, hL⟩ : ∃ L, x3 % (9007199254740992 - M) = L := ⟨_, rfl⟩
  rw [hJ] at HJ j0 j1
  rw [hL] at HL l0 l1
  clear hJ hL hx2 hx3 e1
  have v0 : 0 ≤ leftV (1 + U) (1 + C) M T := leftV_lo (by omega) (by omega) t0
  have v1 : 0 ≤ leftV (1 + U) (1 + C) (M + L) T := leftV_lo (by omega) (by omega) t0
  have v2 : leftV (1 + U) (1 + C) M T ≤ leftV (1 + U) (1 + C + J) M T := leftV_more t0 (by omega)
  have v3 : leftV (1 + U) (1 + C) (M + L) T ≤ leftV (1 + U) (1 + C) M T := leftV_longer (by omega) t0 (by omega)
  have v4 : leftV (1 + U) (1 + C) M T ≤ 1 + U := leftV_hi _ _ _ _
  have A1 := Lib.hid (fun w => left14_any (1 + U) (1 + C) M T w (by omega) (by omega) ⟨by omega, by omega⟩ m0 (by omega) t0 (by omega))
  have A2 := Lib.hid (fun w => left14_any (1 + U) (1 + C + J) M T w (by omega) (by omega) ⟨by omega, by omega⟩ m0 (by omega) t0 (by omega))
  have A3 := Lib.hid (fun w => left14_any (1 + U) (1 + C) (M + L) T w (by omega) (by omega) ⟨by omega, by omega⟩ (by omega) (by omega) t0 (by omega))
  generalize leftV (1 + U) (1 + C) M T = a at *
  generalize leftV (1 + U) (1 + C + J) M T = b at *
  generalize leftV (1 + U) (1 + C) (M + L) T = d at *
  have w1 := wrap_i64 (1 + C) (by omega) (by omega)
  have w2 : IntKind.i64.wrap (1099511627776 - (1 + C)) = 1099511627776 - (1 + C) := wrap_i64 _ (by omega) (by omega)
  have w3 : IntKind.i64.wrap (1099511627776 - (1 + C) + 1) = 1099511627776 - (1 + C) + 1 := wrap_i64 _ (by omega) (by omega)
  have w4 : IntKind.i64.wrap (9007199254740992 - M) = 9007199254740992 - M := wrap_i64 _ (by omega) (by omega)
  have w5 : IntKind.i64.wrap (1 + C + J) = 1 + C + J := wrap_i64 _ (by omega) (by omega)
  have w6 : IntKind.i64.wrap (M + L) = M + L := wrap_i64 _ (by omega) (by omega)
  have hx := new_at w (.cells #[.int .i64 x0, .int .i64 x1, .int .i64 x2, .int .i64 x3] 30 (0, 0))
  have k0 : (w.alloc (.cells #[.int .i64 x0, .int .i64 x1, .int .i64 x2, .int .i64 x3] 30 (0, 0))).cell? ⟨w.heap.size, 0, none⟩ = some (.int .i64 x0) := cellOf hx rfl
  have k1 : (w.alloc (.cells #[.int .i64 x0, .int .i64 x1, .int .i64 x2, .int .i64 x3] 30 (0, 0))).cell? ⟨w.heap.size, 1, none⟩ = some (.int .i64 x1) := cellOf hx rfl
  have k2 : (w.alloc (.cells #[.int .i64 x0, .int .i64 x1, .int .i64 x2, .int .i64 x3] 30 (0, 0))).cell? ⟨w.heap.size, 2, none⟩ = some (.int .i64 x2) := cellOf hx rfl
  have k3 : (w.alloc (.cells #[.int .i64 x0, .int .i64 x1, .int .i64 x2, .int .i64 x3] 30 (0, 0))).cell? ⟨w.heap.size, 3, none⟩ = some (.int .i64 x3) := cellOf hx rfl
  have HG := Lib.hid ((Gr.refl w).alloc (.cells #[.int .i64 x0, .int .i64 x1, .int .i64 x2, .int .i64 x3] 30 (0, 0)))
  clear hx
  go_enter Try.func25, Try.ntmps25
  go_wp2_with (first | (go_at_call_has 57 (Value.int .i64 u); refine (HU.out _).mono ?_; rintro e w' ⟨rfl, rfl⟩) | (go_at_call_has 57 (Value.int .i64 t); refine (HT.out _).mono ?_; rintro e w' ⟨rfl, rfl⟩))
  go_quiet ((first | (go_at_call_has 57 (Value.int .i64 x0); exact Calls.quiet_of_same ((HC.out _).mono fun _ _ ⟨x, y⟩ => ⟨x, y.symm⟩)) | (go_at_call_has 57 (Value.int .i64 x1); exact Calls.quiet_of_same ((HM.out _).mono fun _ _ ⟨x, y⟩ => ⟨x, y.symm⟩))))
  go_wp2_with fail
  go_quiet ((first | (go_at_call_has 57 (Value.int .i64 x2); exact quiet_more ((HJ.out _).mono fun _ _ ⟨x, y⟩ => ⟨x, y.symm⟩)) | (go_at_call_has 57 (Value.int .i64 x3); exact quiet_more ((HL.out _).mono fun _ _ ⟨x, y⟩ => ⟨x, y.symm⟩))))
  go_wp2_with fail
  refine (A1.out _).mono ?_
  rintro e y1 ⟨rfl, b1⟩
  have g1 := (HG.out.drewN _).step b1
  clear b1
  go_wp2_with fail
  refine (A2.out _).mono ?_
  rintro e y2 ⟨rfl, b2⟩
  have g2 := g1.step b2
  clear b2 g1
  go_wp2_with fail
  refine (A3.out _).mono ?_
  rintro e y3 ⟨rfl, b3⟩
  have g3 := g2.step b3
  clear b3 g2
  go_wp2_with (first | (go_at_call 91; refine (works14_any g3).mono ?_; rintro e wz ⟨rfl, hz⟩))
  go_ret
  exact ⟨rfl, hz.1⟩

end Go.Proofs.Ytcholjdbmmgakaa
