/- Bucket.When: the way that computes. -/
import Derived.Test.YtnmekhgilekofaaBuckD
namespace Go.Proofs.Ytnmekhgilekofaa
open Go.RowKit Sat

set_option linter.unusedSimpArgs false in
set_option maxRecDepth 100000 in
set_option maxHeartbeats 3200000 in
/-- The way that computes, the rest being R. -/
theorem bkWhen_slow (a : Nat) (s : BS) (k x y R : Int) (w : World) (h : Bk a s w) (hs : s.Ok) (h1 : 0 ≤ k) (h2 : k ≤ s.b) (h3 : may x y = true) (h4 : s.n < k) (h5 : x ≠ 0)
    (hR : (x = s.num ∧ y = s.den ∧ R = s.r) ∨ (x = s.num ∧ y ≠ s.den ∧ R = 0) ∨ (x ≠ s.num ∧ R = 0)) (k0 : 0 ≤ R) (k1 : R < y) :
    Calls Try.prog 36 #[.pointer (some ⟨a, 0, none⟩), .int .i64 k, .agg #[.int .i64 x, .int .i64 y]] w fun e w' => e = .returned (.int .i64 (if ((k - s.n) * y - R + x - 1) / x ≤ 9007199254740991 - s.t then s.t + ((k - s.n) * y - R + x - 1) / x else -1)) ∧ Bk a s w' ∧ Ch a w w' := by
  obtain ⟨⟨p0, p1⟩, ⟨q0, q1⟩⟩ := may_true h3
  have h6 : (x == 0) = false := beq_eq_false_iff_ne.2 h5
  obtain ⟨b, n, r, t0, x0, y0⟩ := s
  obtain ⟨b0, b1, n0, n1, s0, s1, r0, r1, r2, x1, x2, y1, y2⟩ := hs
  dsimp only at b0 b1 n0 n1 s0 s1 r0 r1 r2 x1 x2 y1 y2 h2 h4 hR ⊢
  have hx1 : 1 ≤ x := by omega
  have pl : y ≤ (k - n) * y := by
    have := Int.mul_le_mul_of_nonneg_right (show (1 : Int) ≤ k - n by omega) (show (0 : Int) ≤ y by omega)
    omega
  have ph : (k - n) * y ≤ 1073741824 * 9007199254740991 := Int.mul_le_mul (by omega) q1 (by omega) (by omega)
  have m0 : 0 ≤ k - n := by omega
  have m1 : k - n < 18446744073709551616 := by omega
  have m2 : 0 ≤ y := by omega
  have m3 : y < 18446744073709551616 := by omega
  have W1 : Hid (IntKind.u64.wrap (IntKind.i64.wrap (k - n)) = k - n) := Lib.hid (by rw [wrap_i64 _ m0 (by omega), wrap_u64 _ m0 m1])
  have W2 : Hid (IntKind.u64.wrap y = y) := Lib.hid (wrap_u64 _ m2 m3)
  have hmul := fun w => mul64_int (k - n) y w m0 m1 m2 m3
  obtain ⟨P, hP⟩ : ∃ P, (k - n) * y = P := ⟨_, rfl⟩
  simp only [hP] at hmul
  rw [hP] at pl ph ⊢
  obtain ⟨H0, hH0⟩ : ∃ v, P / 18446744073709551616 = v := ⟨_, rfl⟩
  obtain ⟨L0, hL0⟩ : ∃ v, P % 18446744073709551616 = v := ⟨_, rfl⟩
  simp only [hH0, hL0] at hmul
  have HM := Lib.hid hmul; clear hmul
  have hw : H0 * 18446744073709551616 + L0 = P := by omega
  have z0 : 0 ≤ L0 := by omega
  have z1 : L0 < 18446744073709551616 := by omega
  obtain ⟨L1, br, e1, l0, l1, hbr, hbl, hsub⟩ := sub64_run L0 R z0 z1 k0 (by omega)
  obtain ⟨L2, cr, e2, l2, l3, hcr, hadd⟩ := add64_run L1 (x - 1) l0 l1 (by omega) (by omega)
  have hT := need_words hw e1 e2
  have g0 : 0 ≤ H0 - br := by omega
  have g1 : H0 - br + cr ≤ 1000000 := by omega
  have v0 : 0 ≤ H0 - br + cr := by omega
  have v2 : x ≤ 18446744073709551615 := by omega
  have v4 : L2 ≤ 18446744073709551615 := by omega
  have v3 := l2
  clear e1 e2 hw hbl
  by_cases hbig : x ≤ H0 - br + cr
  · have hd : ¬ (P - R + x - 1) / x ≤ 9007199254740991 - t0 := by
      have : (H0 - br + cr) * 18446744073709551616 ≤ P - R + x - 1 := by omega
      have : x * 18446744073709551616 ≤ P - R + x - 1 := by omega
      have := (Int.le_ediv_iff_mul_le (a := 18446744073709551616) (b := P - R + x - 1) (c := x) (by omega)).2 (by omega)
      omega
    rw [if_neg hd]
    clear hd hT hP hH0 hL0
    rcases hR with ⟨rfl, rfl, rfl⟩ | ⟨rfl, hb, rfl⟩ | ⟨ha, rfl⟩
    · skip
      have c0 : w.cell? ⟨a, 0, none⟩ = some (.int .i64 b) := cellOf h rfl
      have c1 : w.cell? ⟨a, 1, none⟩ = some (.int .i64 n) := cellOf h rfl
      have c2 : w.cell? ⟨a, 2, none⟩ = some (.int .i64 R) := cellOf h rfl
      have c3 : w.cell? ⟨a, 3, none⟩ = some (.int .i64 t0) := cellOf h rfl
      have c4 : w.cell? ⟨a, 4, none⟩ = some (.int .i64 x) := cellOf h rfl
      have c5 : w.cell? ⟨a, 5, none⟩ = some (.int .i64 y) := cellOf h rfl
      have f0 : w.frozen? ⟨a, 0, none⟩ = false := freeOf h
      have f1 : w.frozen? ⟨a, 1, none⟩ = false := freeOf h
      have f2 : w.frozen? ⟨a, 2, none⟩ = false := freeOf h
      have f3 : w.frozen? ⟨a, 3, none⟩ = false := freeOf h
      have f4 : w.frozen? ⟨a, 4, none⟩ = false := freeOf h
      have f5 : w.frozen? ⟨a, 5, none⟩ = false := freeOf h
      have hlt : a < w.heap.size := lt_of_block h
      have H := Lib.hid h; clear h
      go_enter Try.func36, Try.ntmps36
      go_wp2_with
        (first
          |
            (go_at_call 74; refine (may_any _ _ _).mono ?_; rintro e wB ⟨rfl, hB⟩; have HW := Lib.hid (FW.step (a := a) (s := ⟨b, n, R, t0, x, y⟩) (K := w.heap.size) (x := x) (y := y) (w0 := w) ⟨old_at _ H.out, new_at _ _, (Ch.refl a w).alloc _⟩ hB); have cB0 : wB.cell? ⟨a, 0, none⟩ = some (.int .i64 b) := cellOf HW.out.bk rfl; have cB1 : wB.cell? ⟨a, 1, none⟩ = some (.int .i64 n) := cellOf HW.out.bk rfl; have cB2 : wB.cell? ⟨a, 2, none⟩ = some (.int .i64 R) := cellOf HW.out.bk rfl; have cB3 : wB.cell? ⟨a, 3, none⟩ = some (.int .i64 t0) := cellOf HW.out.bk rfl; have cB4 : wB.cell? ⟨a, 4, none⟩ = some (.int .i64 x) := cellOf HW.out.bk rfl; have cB5 : wB.cell? ⟨a, 5, none⟩ = some (.int .i64 y) := cellOf HW.out.bk rfl; have cR0 : wB.cell? ⟨w.heap.size, 0, none⟩ = some (.int .i64 x) := cellOf HW.out.rt rfl; have cR1 : wB.cell? ⟨w.heap.size, 1, none⟩ = some (.int .i64 y) := cellOf HW.out.rt rfl)
          |
            (go_at_call 73; refine (bkNone_any a ⟨b, n, R, t0, x, y⟩ _ (by first | exact H.out | exact old_at _ H.out) b0).mono ?_; rintro e w' ⟨rfl, rfl⟩)
          )
      go_quiet (fail)
      go_wp2_with fail
      go_quiet ((go_at_call 84; rw [W1.out, W2.out]; exact quiet_more (HM.out _)))
      go_wp2_with (first | simp only [hsub] | simp only [hadd] | (go_at_call 87; refine (div64_any _ _ _ _ v0 v1 v2 v3 v4).mono ?_; rintro e w' ⟨rfl, nd, rfl⟩))
      go_ret
      refine ⟨rfl, ?_, ?_⟩
      · first | exact HW.out.bk
      · first | exact HW.out.ch.drewN _ | exact (HW.out.ch.drewN _).drewN _ | exact ((HW.out.ch.drewN _).drewN _).drewN _
    · have hb' : (y == y0) = false := beq_eq_false_iff_ne.2 hb
      have c0 : w.cell? ⟨a, 0, none⟩ = some (.int .i64 b) := cellOf h rfl
      have c1 : w.cell? ⟨a, 1, none⟩ = some (.int .i64 n) := cellOf h rfl
      have c2 : w.cell? ⟨a, 2, none⟩ = some (.int .i64 r) := cellOf h rfl
      have c3 : w.cell? ⟨a, 3, none⟩ = some (.int .i64 t0) := cellOf h rfl
      have c4 : w.cell? ⟨a, 4, none⟩ = some (.int .i64 x) := cellOf h rfl
      have c5 : w.cell? ⟨a, 5, none⟩ = some (.int .i64 y0) := cellOf h rfl
      have f0 : w.frozen? ⟨a, 0, none⟩ = false := freeOf h
      have f1 : w.frozen? ⟨a, 1, none⟩ = false := freeOf h
      have f2 : w.frozen? ⟨a, 2, none⟩ = false := freeOf h
      have f3 : w.frozen? ⟨a, 3, none⟩ = false := freeOf h
      have f4 : w.frozen? ⟨a, 4, none⟩ = false := freeOf h
      have f5 : w.frozen? ⟨a, 5, none⟩ = false := freeOf h
      have hlt : a < w.heap.size := lt_of_block h
      have H := Lib.hid h; clear h
      go_enter Try.func36, Try.ntmps36
      go_wp2_with
        (first
          |
            (go_at_call 74; refine (may_any _ _ _).mono ?_; rintro e wB ⟨rfl, hB⟩; have HW := Lib.hid (FW.step (a := a) (s := ⟨b, n, r, t0, x, y0⟩) (K := w.heap.size) (x := x) (y := y) (w0 := w) ⟨old_at _ H.out, new_at _ _, (Ch.refl a w).alloc _⟩ hB); have cB0 : wB.cell? ⟨a, 0, none⟩ = some (.int .i64 b) := cellOf HW.out.bk rfl; have cB1 : wB.cell? ⟨a, 1, none⟩ = some (.int .i64 n) := cellOf HW.out.bk rfl; have cB2 : wB.cell? ⟨a, 2, none⟩ = some (.int .i64 r) := cellOf HW.out.bk rfl; have cB3 : wB.cell? ⟨a, 3, none⟩ = some (.int .i64 t0) := cellOf HW.out.bk rfl; have cB4 : wB.cell? ⟨a, 4, none⟩ = some (.int .i64 x) := cellOf HW.out.bk rfl; have cB5 : wB.cell? ⟨a, 5, none⟩ = some (.int .i64 y0) := cellOf HW.out.bk rfl; have cR0 : wB.cell? ⟨w.heap.size, 0, none⟩ = some (.int .i64 x) := cellOf HW.out.rt rfl; have cR1 : wB.cell? ⟨w.heap.size, 1, none⟩ = some (.int .i64 y) := cellOf HW.out.rt rfl)
          |
            (go_at_call 73; refine (bkNone_any a ⟨b, n, r, t0, x, y0⟩ _ (by first | exact H.out | exact old_at _ H.out) b0).mono ?_; rintro e w' ⟨rfl, rfl⟩)
          )
      go_quiet (fail)
      go_wp2_with fail
      go_quiet ((go_at_call 84; rw [W1.out, W2.out]; exact quiet_more (HM.out _)))
      go_wp2_with (first | simp only [hsub] | simp only [hadd] | (go_at_call 87; refine (div64_any _ _ _ _ v0 v1 v2 v3 v4).mono ?_; rintro e w' ⟨rfl, nd, rfl⟩))
      go_ret
      refine ⟨rfl, ?_, ?_⟩
      · first | exact HW.out.bk
      · first | exact HW.out.ch.drewN _ | exact (HW.out.ch.drewN _).drewN _ | exact ((HW.out.ch.drewN _).drewN _).drewN _
    · have ha' : (x == x0) = false := beq_eq_false_iff_ne.2 ha
      have c0 : w.cell? ⟨a, 0, none⟩ = some (.int .i64 b) := cellOf h rfl
      have c1 : w.cell? ⟨a, 1, none⟩ = some (.int .i64 n) := cellOf h rfl
      have c2 : w.cell? ⟨a, 2, none⟩ = some (.int .i64 r) := cellOf h rfl
      have c3 : w.cell? ⟨a, 3, none⟩ = some (.int .i64 t0) := cellOf h rfl
      have c4 : w.cell? ⟨a, 4, none⟩ = some (.int .i64 x0) := cellOf h rfl
      have c5 : w.cell? ⟨a, 5, none⟩ = some (.int .i64 y0) := cellOf h rfl
      have f0 : w.frozen? ⟨a, 0, none⟩ = false := freeOf h
      have f1 : w.frozen? ⟨a, 1, none⟩ = false := freeOf h
      have f2 : w.frozen? ⟨a, 2, none⟩ = false := freeOf h
      have f3 : w.frozen? ⟨a, 3, none⟩ = false := freeOf h
      have f4 : w.frozen? ⟨a, 4, none⟩ = false := freeOf h
      have f5 : w.frozen? ⟨a, 5, none⟩ = false := freeOf h
      have hlt : a < w.heap.size := lt_of_block h
      have H := Lib.hid h; clear h
      go_enter Try.func36, Try.ntmps36
      go_wp2_with
        (first
          |
            (go_at_call 74; refine (may_any _ _ _).mono ?_; rintro e wB ⟨rfl, hB⟩; have HW := Lib.hid (FW.step (a := a) (s := ⟨b, n, r, t0, x0, y0⟩) (K := w.heap.size) (x := x) (y := y) (w0 := w) ⟨old_at _ H.out, new_at _ _, (Ch.refl a w).alloc _⟩ hB); have cB0 : wB.cell? ⟨a, 0, none⟩ = some (.int .i64 b) := cellOf HW.out.bk rfl; have cB1 : wB.cell? ⟨a, 1, none⟩ = some (.int .i64 n) := cellOf HW.out.bk rfl; have cB2 : wB.cell? ⟨a, 2, none⟩ = some (.int .i64 r) := cellOf HW.out.bk rfl; have cB3 : wB.cell? ⟨a, 3, none⟩ = some (.int .i64 t0) := cellOf HW.out.bk rfl; have cB4 : wB.cell? ⟨a, 4, none⟩ = some (.int .i64 x0) := cellOf HW.out.bk rfl; have cB5 : wB.cell? ⟨a, 5, none⟩ = some (.int .i64 y0) := cellOf HW.out.bk rfl; have cR0 : wB.cell? ⟨w.heap.size, 0, none⟩ = some (.int .i64 x) := cellOf HW.out.rt rfl; have cR1 : wB.cell? ⟨w.heap.size, 1, none⟩ = some (.int .i64 y) := cellOf HW.out.rt rfl)
          |
            (go_at_call 73; refine (bkNone_any a ⟨b, n, r, t0, x0, y0⟩ _ (by first | exact H.out | exact old_at _ H.out) b0).mono ?_; rintro e w' ⟨rfl, rfl⟩)
          )
      go_quiet (fail)
      go_wp2_with fail
      go_quiet ((go_at_call 84; rw [W1.out, W2.out]; exact quiet_more (HM.out _)))
      go_wp2_with (first | simp only [hsub] | simp only [hadd] | (go_at_call 87; refine (div64_any _ _ _ _ v0 v1 v2 v3 v4).mono ?_; rintro e w' ⟨rfl, nd, rfl⟩))
      go_ret
      refine ⟨rfl, ?_, ?_⟩
      · first | exact HW.out.bk
      · first | exact HW.out.ch.drewN _ | exact (HW.out.ch.drewN _).drewN _ | exact ((HW.out.ch.drewN _).drewN _).drewN _
  · have v1 : H0 - br + cr < x := by omega
    have d0 : 0 ≤ (P - R + x - 1) / x := Int.ediv_nonneg (by omega) (by omega)
    have d2 : (P - R + x - 1) / x < 18446744073709551616 := by
      apply Int.ediv_lt_of_lt_mul (by omega)
      omega
    obtain ⟨D, hD⟩ : ∃ v, (P - R + x - 1) / x = v := ⟨_, rfl⟩
    have hD' : ((H0 - br + cr) * 18446744073709551616 + L2) / x = D := by rw [hT, hD]
    rw [hD] at d0 d2 ⊢
    clear hD hT hP hH0 hL0
    by_cases hd : D ≤ 9007199254740991 - t0
    · rw [if_pos hd]
      rcases hR with ⟨rfl, rfl, rfl⟩ | ⟨rfl, hb, rfl⟩ | ⟨ha, rfl⟩
      · skip
        have c0 : w.cell? ⟨a, 0, none⟩ = some (.int .i64 b) := cellOf h rfl
        have c1 : w.cell? ⟨a, 1, none⟩ = some (.int .i64 n) := cellOf h rfl
        have c2 : w.cell? ⟨a, 2, none⟩ = some (.int .i64 R) := cellOf h rfl
        have c3 : w.cell? ⟨a, 3, none⟩ = some (.int .i64 t0) := cellOf h rfl
        have c4 : w.cell? ⟨a, 4, none⟩ = some (.int .i64 x) := cellOf h rfl
        have c5 : w.cell? ⟨a, 5, none⟩ = some (.int .i64 y) := cellOf h rfl
        have f0 : w.frozen? ⟨a, 0, none⟩ = false := freeOf h
        have f1 : w.frozen? ⟨a, 1, none⟩ = false := freeOf h
        have f2 : w.frozen? ⟨a, 2, none⟩ = false := freeOf h
        have f3 : w.frozen? ⟨a, 3, none⟩ = false := freeOf h
        have f4 : w.frozen? ⟨a, 4, none⟩ = false := freeOf h
        have f5 : w.frozen? ⟨a, 5, none⟩ = false := freeOf h
        have hlt : a < w.heap.size := lt_of_block h
        have H := Lib.hid h; clear h
        go_enter Try.func36, Try.ntmps36
        go_wp2_with
          (first
            |
              (go_at_call 74; refine (may_any _ _ _).mono ?_; rintro e wB ⟨rfl, hB⟩; have HW := Lib.hid (FW.step (a := a) (s := ⟨b, n, R, t0, x, y⟩) (K := w.heap.size) (x := x) (y := y) (w0 := w) ⟨old_at _ H.out, new_at _ _, (Ch.refl a w).alloc _⟩ hB); have cB0 : wB.cell? ⟨a, 0, none⟩ = some (.int .i64 b) := cellOf HW.out.bk rfl; have cB1 : wB.cell? ⟨a, 1, none⟩ = some (.int .i64 n) := cellOf HW.out.bk rfl; have cB2 : wB.cell? ⟨a, 2, none⟩ = some (.int .i64 R) := cellOf HW.out.bk rfl; have cB3 : wB.cell? ⟨a, 3, none⟩ = some (.int .i64 t0) := cellOf HW.out.bk rfl; have cB4 : wB.cell? ⟨a, 4, none⟩ = some (.int .i64 x) := cellOf HW.out.bk rfl; have cB5 : wB.cell? ⟨a, 5, none⟩ = some (.int .i64 y) := cellOf HW.out.bk rfl; have cR0 : wB.cell? ⟨w.heap.size, 0, none⟩ = some (.int .i64 x) := cellOf HW.out.rt rfl; have cR1 : wB.cell? ⟨w.heap.size, 1, none⟩ = some (.int .i64 y) := cellOf HW.out.rt rfl)
            |
              (go_at_call 73; refine (bkNone_any a ⟨b, n, R, t0, x, y⟩ _ (by first | exact H.out | exact old_at _ H.out) b0).mono ?_; rintro e w' ⟨rfl, rfl⟩)
            )
        go_quiet (fail)
        go_wp2_with fail
        go_quiet ((go_at_call 84; rw [W1.out, W2.out]; exact quiet_more (HM.out _)))
        go_wp2_with (first | simp only [hsub] | simp only [hadd] | (go_at_call 87; refine (div64_any _ _ _ _ v0 v1 v2 v3 v4).mono ?_; rintro e w' ⟨rfl, nd, rfl⟩))
        go_ret
        refine ⟨rfl, ?_, ?_⟩
        · first | exact HW.out.bk
        · first | exact HW.out.ch.drewN _ | exact (HW.out.ch.drewN _).drewN _ | exact ((HW.out.ch.drewN _).drewN _).drewN _
      · have hb' : (y == y0) = false := beq_eq_false_iff_ne.2 hb
        have c0 : w.cell? ⟨a, 0, none⟩ = some (.int .i64 b) := cellOf h rfl
        have c1 : w.cell? ⟨a, 1, none⟩ = some (.int .i64 n) := cellOf h rfl
        have c2 : w.cell? ⟨a, 2, none⟩ = some (.int .i64 r) := cellOf h rfl
        have c3 : w.cell? ⟨a, 3, none⟩ = some (.int .i64 t0) := cellOf h rfl
        have c4 : w.cell? ⟨a, 4, none⟩ = some (.int .i64 x) := cellOf h rfl
        have c5 : w.cell? ⟨a, 5, none⟩ = some (.int .i64 y0) := cellOf h rfl
        have f0 : w.frozen? ⟨a, 0, none⟩ = false := freeOf h
        have f1 : w.frozen? ⟨a, 1, none⟩ = false := freeOf h
        have f2 : w.frozen? ⟨a, 2, none⟩ = false := freeOf h
        have f3 : w.frozen? ⟨a, 3, none⟩ = false := freeOf h
        have f4 : w.frozen? ⟨a, 4, none⟩ = false := freeOf h
        have f5 : w.frozen? ⟨a, 5, none⟩ = false := freeOf h
        have hlt : a < w.heap.size := lt_of_block h
        have H := Lib.hid h; clear h
        go_enter Try.func36, Try.ntmps36
        go_wp2_with
          (first
            |
              (go_at_call 74; refine (may_any _ _ _).mono ?_; rintro e wB ⟨rfl, hB⟩; have HW := Lib.hid (FW.step (a := a) (s := ⟨b, n, r, t0, x, y0⟩) (K := w.heap.size) (x := x) (y := y) (w0 := w) ⟨old_at _ H.out, new_at _ _, (Ch.refl a w).alloc _⟩ hB); have cB0 : wB.cell? ⟨a, 0, none⟩ = some (.int .i64 b) := cellOf HW.out.bk rfl; have cB1 : wB.cell? ⟨a, 1, none⟩ = some (.int .i64 n) := cellOf HW.out.bk rfl; have cB2 : wB.cell? ⟨a, 2, none⟩ = some (.int .i64 r) := cellOf HW.out.bk rfl; have cB3 : wB.cell? ⟨a, 3, none⟩ = some (.int .i64 t0) := cellOf HW.out.bk rfl; have cB4 : wB.cell? ⟨a, 4, none⟩ = some (.int .i64 x) := cellOf HW.out.bk rfl; have cB5 : wB.cell? ⟨a, 5, none⟩ = some (.int .i64 y0) := cellOf HW.out.bk rfl; have cR0 : wB.cell? ⟨w.heap.size, 0, none⟩ = some (.int .i64 x) := cellOf HW.out.rt rfl; have cR1 : wB.cell? ⟨w.heap.size, 1, none⟩ = some (.int .i64 y) := cellOf HW.out.rt rfl)
            |
              (go_at_call 73; refine (bkNone_any a ⟨b, n, r, t0, x, y0⟩ _ (by first | exact H.out | exact old_at _ H.out) b0).mono ?_; rintro e w' ⟨rfl, rfl⟩)
            )
        go_quiet (fail)
        go_wp2_with fail
        go_quiet ((go_at_call 84; rw [W1.out, W2.out]; exact quiet_more (HM.out _)))
        go_wp2_with (first | simp only [hsub] | simp only [hadd] | (go_at_call 87; refine (div64_any _ _ _ _ v0 v1 v2 v3 v4).mono ?_; rintro e w' ⟨rfl, nd, rfl⟩))
        go_ret
        refine ⟨rfl, ?_, ?_⟩
        · first | exact HW.out.bk
        · first | exact HW.out.ch.drewN _ | exact (HW.out.ch.drewN _).drewN _ | exact ((HW.out.ch.drewN _).drewN _).drewN _
      · have ha' : (x == x0) = false := beq_eq_false_iff_ne.2 ha
        have c0 : w.cell? ⟨a, 0, none⟩ = some (.int .i64 b) := cellOf h rfl
        have c1 : w.cell? ⟨a, 1, none⟩ = some (.int .i64 n) := cellOf h rfl
        have c2 : w.cell? ⟨a, 2, none⟩ = some (.int .i64 r) := cellOf h rfl
        have c3 : w.cell? ⟨a, 3, none⟩ = some (.int .i64 t0) := cellOf h rfl
        have c4 : w.cell? ⟨a, 4, none⟩ = some (.int .i64 x0) := cellOf h rfl
        have c5 : w.cell? ⟨a, 5, none⟩ = some (.int .i64 y0) := cellOf h rfl
        have f0 : w.frozen? ⟨a, 0, none⟩ = false := freeOf h
        have f1 : w.frozen? ⟨a, 1, none⟩ = false := freeOf h
        have f2 : w.frozen? ⟨a, 2, none⟩ = false := freeOf h
        have f3 : w.frozen? ⟨a, 3, none⟩ = false := freeOf h
        have f4 : w.frozen? ⟨a, 4, none⟩ = false := freeOf h
        have f5 : w.frozen? ⟨a, 5, none⟩ = false := freeOf h
        have hlt : a < w.heap.size := lt_of_block h
        have H := Lib.hid h; clear h
        go_enter Try.func36, Try.ntmps36
        go_wp2_with
          (first
            |
              (go_at_call 74; refine (may_any _ _ _).mono ?_; rintro e wB ⟨rfl, hB⟩; have HW := Lib.hid (FW.step (a := a) (s := ⟨b, n, r, t0, x0, y0⟩) (K := w.heap.size) (x := x) (y := y) (w0 := w) ⟨old_at _ H.out, new_at _ _, (Ch.refl a w).alloc _⟩ hB); have cB0 : wB.cell? ⟨a, 0, none⟩ = some (.int .i64 b) := cellOf HW.out.bk rfl; have cB1 : wB.cell? ⟨a, 1, none⟩ = some (.int .i64 n) := cellOf HW.out.bk rfl; have cB2 : wB.cell? ⟨a, 2, none⟩ = some (.int .i64 r) := cellOf HW.out.bk rfl; have cB3 : wB.cell? ⟨a, 3, none⟩ = some (.int .i64 t0) := cellOf HW.out.bk rfl; have cB4 : wB.cell? ⟨a, 4, none⟩ = some (.int .i64 x0) := cellOf HW.out.bk rfl; have cB5 : wB.cell? ⟨a, 5, none⟩ = some (.int .i64 y0) := cellOf HW.out.bk rfl; have cR0 : wB.cell? ⟨w.heap.size, 0, none⟩ = some (.int .i64 x) := cellOf HW.out.rt rfl; have cR1 : wB.cell? ⟨w.heap.size, 1, none⟩ = some (.int .i64 y) := cellOf HW.out.rt rfl)
            |
              (go_at_call 73; refine (bkNone_any a ⟨b, n, r, t0, x0, y0⟩ _ (by first | exact H.out | exact old_at _ H.out) b0).mono ?_; rintro e w' ⟨rfl, rfl⟩)
            )
        go_quiet (fail)
        go_wp2_with fail
        go_quiet ((go_at_call 84; rw [W1.out, W2.out]; exact quiet_more (HM.out _)))
        go_wp2_with (first | simp only [hsub] | simp only [hadd] | (go_at_call 87; refine (div64_any _ _ _ _ v0 v1 v2 v3 v4).mono ?_; rintro e w' ⟨rfl, nd, rfl⟩))
        go_ret
        refine ⟨rfl, ?_, ?_⟩
        · first | exact HW.out.bk
        · first | exact HW.out.ch.drewN _ | exact (HW.out.ch.drewN _).drewN _ | exact ((HW.out.ch.drewN _).drewN _).drewN _
    · rw [if_neg hd]
      rcases hR with ⟨rfl, rfl, rfl⟩ | ⟨rfl, hb, rfl⟩ | ⟨ha, rfl⟩
      · skip
        have c0 : w.cell? ⟨a, 0, none⟩ = some (.int .i64 b) := cellOf h rfl
        have c1 : w.cell? ⟨a, 1, none⟩ = some (.int .i64 n) := cellOf h rfl
        have c2 : w.cell? ⟨a, 2, none⟩ = some (.int .i64 R) := cellOf h rfl
        have c3 : w.cell? ⟨a, 3, none⟩ = some (.int .i64 t0) := cellOf h rfl
        have c4 : w.cell? ⟨a, 4, none⟩ = some (.int .i64 x) := cellOf h rfl
        have c5 : w.cell? ⟨a, 5, none⟩ = some (.int .i64 y) := cellOf h rfl
        have f0 : w.frozen? ⟨a, 0, none⟩ = false := freeOf h
        have f1 : w.frozen? ⟨a, 1, none⟩ = false := freeOf h
        have f2 : w.frozen? ⟨a, 2, none⟩ = false := freeOf h
        have f3 : w.frozen? ⟨a, 3, none⟩ = false := freeOf h
        have f4 : w.frozen? ⟨a, 4, none⟩ = false := freeOf h
        have f5 : w.frozen? ⟨a, 5, none⟩ = false := freeOf h
        have hlt : a < w.heap.size := lt_of_block h
        have H := Lib.hid h; clear h
        go_enter Try.func36, Try.ntmps36
        go_wp2_with
          (first
            |
              (go_at_call 74; refine (may_any _ _ _).mono ?_; rintro e wB ⟨rfl, hB⟩; have HW := Lib.hid (FW.step (a := a) (s := ⟨b, n, R, t0, x, y⟩) (K := w.heap.size) (x := x) (y := y) (w0 := w) ⟨old_at _ H.out, new_at _ _, (Ch.refl a w).alloc _⟩ hB); have cB0 : wB.cell? ⟨a, 0, none⟩ = some (.int .i64 b) := cellOf HW.out.bk rfl; have cB1 : wB.cell? ⟨a, 1, none⟩ = some (.int .i64 n) := cellOf HW.out.bk rfl; have cB2 : wB.cell? ⟨a, 2, none⟩ = some (.int .i64 R) := cellOf HW.out.bk rfl; have cB3 : wB.cell? ⟨a, 3, none⟩ = some (.int .i64 t0) := cellOf HW.out.bk rfl; have cB4 : wB.cell? ⟨a, 4, none⟩ = some (.int .i64 x) := cellOf HW.out.bk rfl; have cB5 : wB.cell? ⟨a, 5, none⟩ = some (.int .i64 y) := cellOf HW.out.bk rfl; have cR0 : wB.cell? ⟨w.heap.size, 0, none⟩ = some (.int .i64 x) := cellOf HW.out.rt rfl; have cR1 : wB.cell? ⟨w.heap.size, 1, none⟩ = some (.int .i64 y) := cellOf HW.out.rt rfl)
            |
              (go_at_call 73; refine (bkNone_any a ⟨b, n, R, t0, x, y⟩ _ (by first | exact H.out | exact old_at _ H.out) b0).mono ?_; rintro e w' ⟨rfl, rfl⟩)
            )
        go_quiet (fail)
        go_wp2_with fail
        go_quiet ((go_at_call 84; rw [W1.out, W2.out]; exact quiet_more (HM.out _)))
        go_wp2_with (first | simp only [hsub] | simp only [hadd] | (go_at_call 87; refine (div64_any _ _ _ _ v0 v1 v2 v3 v4).mono ?_; rintro e w' ⟨rfl, nd, rfl⟩))
        go_ret
        refine ⟨rfl, ?_, ?_⟩
        · first | exact HW.out.bk
        · first | exact HW.out.ch.drewN _ | exact (HW.out.ch.drewN _).drewN _ | exact ((HW.out.ch.drewN _).drewN _).drewN _
      · have hb' : (y == y0) = false := beq_eq_false_iff_ne.2 hb
        have c0 : w.cell? ⟨a, 0, none⟩ = some (.int .i64 b) := cellOf h rfl
        have c1 : w.cell? ⟨a, 1, none⟩ = some (.int .i64 n) := cellOf h rfl
        have c2 : w.cell? ⟨a, 2, none⟩ = some (.int .i64 r) := cellOf h rfl
        have c3 : w.cell? ⟨a, 3, none⟩ = some (.int .i64 t0) := cellOf h rfl
        have c4 : w.cell? ⟨a, 4, none⟩ = some (.int .i64 x) := cellOf h rfl
        have c5 : w.cell? ⟨a, 5, none⟩ = some (.int .i64 y0) := cellOf h rfl
        have f0 : w.frozen? ⟨a, 0, none⟩ = false := freeOf h
        have f1 : w.frozen? ⟨a, 1, none⟩ = false := freeOf h
        have f2 : w.frozen? ⟨a, 2, none⟩ = false := freeOf h
        have f3 : w.frozen? ⟨a, 3, none⟩ = false := freeOf h
        have f4 : w.frozen? ⟨a, 4, none⟩ = false := freeOf h
        have f5 : w.frozen? ⟨a, 5, none⟩ = false := freeOf h
        have hlt : a < w.heap.size := lt_of_block h
        have H := Lib.hid h; clear h
        go_enter Try.func36, Try.ntmps36
        go_wp2_with
          (first
            |
              (go_at_call 74; refine (may_any _ _ _).mono ?_; rintro e wB ⟨rfl, hB⟩; have HW := Lib.hid (FW.step (a := a) (s := ⟨b, n, r, t0, x, y0⟩) (K := w.heap.size) (x := x) (y := y) (w0 := w) ⟨old_at _ H.out, new_at _ _, (Ch.refl a w).alloc _⟩ hB); have cB0 : wB.cell? ⟨a, 0, none⟩ = some (.int .i64 b) := cellOf HW.out.bk rfl; have cB1 : wB.cell? ⟨a, 1, none⟩ = some (.int .i64 n) := cellOf HW.out.bk rfl; have cB2 : wB.cell? ⟨a, 2, none⟩ = some (.int .i64 r) := cellOf HW.out.bk rfl; have cB3 : wB.cell? ⟨a, 3, none⟩ = some (.int .i64 t0) := cellOf HW.out.bk rfl; have cB4 : wB.cell? ⟨a, 4, none⟩ = some (.int .i64 x) := cellOf HW.out.bk rfl; have cB5 : wB.cell? ⟨a, 5, none⟩ = some (.int .i64 y0) := cellOf HW.out.bk rfl; have cR0 : wB.cell? ⟨w.heap.size, 0, none⟩ = some (.int .i64 x) := cellOf HW.out.rt rfl; have cR1 : wB.cell? ⟨w.heap.size, 1, none⟩ = some (.int .i64 y) := cellOf HW.out.rt rfl)
            |
              (go_at_call 73; refine (bkNone_any a ⟨b, n, r, t0, x, y0⟩ _ (by first | exact H.out | exact old_at _ H.out) b0).mono ?_; rintro e w' ⟨rfl, rfl⟩)
            )
        go_quiet (fail)
        go_wp2_with fail
        go_quiet ((go_at_call 84; rw [W1.out, W2.out]; exact quiet_more (HM.out _)))
        go_wp2_with (first | simp only [hsub] | simp only [hadd] | (go_at_call 87; refine (div64_any _ _ _ _ v0 v1 v2 v3 v4).mono ?_; rintro e w' ⟨rfl, nd, rfl⟩))
        go_ret
        refine ⟨rfl, ?_, ?_⟩
        · first | exact HW.out.bk
        · first | exact HW.out.ch.drewN _ | exact (HW.out.ch.drewN _).drewN _ | exact ((HW.out.ch.drewN _).drewN _).drewN _
      · have ha' : (x == x0) = false := beq_eq_false_iff_ne.2 ha
        have c0 : w.cell? ⟨a, 0, none⟩ = some (.int .i64 b) := cellOf h rfl
        have c1 : w.cell? ⟨a, 1, none⟩ = some (.int .i64 n) := cellOf h rfl
        have c2 : w.cell? ⟨a, 2, none⟩ = some (.int .i64 r) := cellOf h rfl
        have c3 : w.cell? ⟨a, 3, none⟩ = some (.int .i64 t0) := cellOf h rfl
        have c4 : w.cell? ⟨a, 4, none⟩ = some (.int .i64 x0) := cellOf h rfl
        have c5 : w.cell? ⟨a, 5, none⟩ = some (.int .i64 y0) := cellOf h rfl
        have f0 : w.frozen? ⟨a, 0, none⟩ = false := freeOf h
        have f1 : w.frozen? ⟨a, 1, none⟩ = false := freeOf h
        have f2 : w.frozen? ⟨a, 2, none⟩ = false := freeOf h
        have f3 : w.frozen? ⟨a, 3, none⟩ = false := freeOf h
        have f4 : w.frozen? ⟨a, 4, none⟩ = false := freeOf h
        have f5 : w.frozen? ⟨a, 5, none⟩ = false := freeOf h
        have hlt : a < w.heap.size := lt_of_block h
        have H := Lib.hid h; clear h
        go_enter Try.func36, Try.ntmps36
        go_wp2_with
          (first
            |
              (go_at_call 74; refine (may_any _ _ _).mono ?_; rintro e wB ⟨rfl, hB⟩; have HW := Lib.hid (FW.step (a := a) (s := ⟨b, n, r, t0, x0, y0⟩) (K := w.heap.size) (x := x) (y := y) (w0 := w) ⟨old_at _ H.out, new_at _ _, (Ch.refl a w).alloc _⟩ hB); have cB0 : wB.cell? ⟨a, 0, none⟩ = some (.int .i64 b) := cellOf HW.out.bk rfl; have cB1 : wB.cell? ⟨a, 1, none⟩ = some (.int .i64 n) := cellOf HW.out.bk rfl; have cB2 : wB.cell? ⟨a, 2, none⟩ = some (.int .i64 r) := cellOf HW.out.bk rfl; have cB3 : wB.cell? ⟨a, 3, none⟩ = some (.int .i64 t0) := cellOf HW.out.bk rfl; have cB4 : wB.cell? ⟨a, 4, none⟩ = some (.int .i64 x0) := cellOf HW.out.bk rfl; have cB5 : wB.cell? ⟨a, 5, none⟩ = some (.int .i64 y0) := cellOf HW.out.bk rfl; have cR0 : wB.cell? ⟨w.heap.size, 0, none⟩ = some (.int .i64 x) := cellOf HW.out.rt rfl; have cR1 : wB.cell? ⟨w.heap.size, 1, none⟩ = some (.int .i64 y) := cellOf HW.out.rt rfl)
            |
              (go_at_call 73; refine (bkNone_any a ⟨b, n, r, t0, x0, y0⟩ _ (by first | exact H.out | exact old_at _ H.out) b0).mono ?_; rintro e w' ⟨rfl, rfl⟩)
            )
        go_quiet (fail)
        go_wp2_with fail
        go_quiet ((go_at_call 84; rw [W1.out, W2.out]; exact quiet_more (HM.out _)))
        go_wp2_with (first | simp only [hsub] | simp only [hadd] | (go_at_call 87; refine (div64_any _ _ _ _ v0 v1 v2 v3 v4).mono ?_; rintro e w' ⟨rfl, nd, rfl⟩))
        go_ret
        refine ⟨rfl, ?_, ?_⟩
        · first | exact HW.out.bk
        · first | exact HW.out.ch.drewN _ | exact (HW.out.ch.drewN _).drewN _ | exact ((HW.out.ch.drewN _).drewN _).drewN _

theorem bkWhen_any (a : Nat) (s : BS) (k x y : Int) (w : World) (h : Bk a s w) (hs : s.Ok) :
    Calls Try.prog 36 #[.pointer (some ⟨a, 0, none⟩), .int .i64 k, .agg #[.int .i64 x, .int .i64 y]] w fun e w' => e = .returned (.int .i64 (s.when k x y)) ∧ Bk a s w' ∧ Ch a w w' := by
  by_cases hq : k < 0 ∨ s.b < k ∨ may x y = false ∨ k ≤ s.n ∨ x = 0
  · exact bkWhen_quick a s k x y w h hs hq
  · have g1 : ¬ k < 0 := fun g => hq (Or.inl g)
    have g2 : ¬ s.b < k := fun g => hq (Or.inr (Or.inl g))
    have g3 : may x y = true := by
      rcases g : may x y with _ | _
      · exact absurd (Or.inr (Or.inr (Or.inl g))) hq
      · rfl
    have g4 : ¬ k ≤ s.n := fun g => hq (Or.inr (Or.inr (Or.inr (Or.inl g))))
    have g5 : x ≠ 0 := fun g => hq (Or.inr (Or.inr (Or.inr (Or.inr g))))
    have hy := (may_true g3).2.1
    rw [BS.when_at (by omega) (by omega) g3 (by omega) g5]
    refine bkWhen_slow a s k x y (s.keep x y) w h hs (by omega) (by omega) g3 (by omega) g5 ?_ (BS.keep_lo hs x y) (BS.keep_hi hs hy)
    unfold BS.keep
    by_cases e1 : x = s.num
    · by_cases e2 : y = s.den
      · exact Or.inl ⟨e1, e2, if_pos ⟨e1, e2⟩⟩
      · exact Or.inr (Or.inl ⟨e1, e2, if_neg (fun g => e2 g.2)⟩)
    · exact Or.inr (Or.inr ⟨e1, if_neg (fun g => e1 g.1)⟩)

end Go.Proofs.Ytnmekhgilekofaa
