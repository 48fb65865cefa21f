/- The walk of SatExact. -/
import Derived.Test.YtcholjdbmmgakaaLimb
import Derived.Test.YtcholjdbmmgakaaOpen
import Derived.Deep.RegionHeld3
namespace Go.Proofs.Ytcholjdbmmgakaa
open Go.RowKit Sat

set_option maxHeartbeats 1000000 in
set_option maxRecDepth 100000 in
theorem satExact_walk (a0 : Int) (_h0 : okI a0) (a1 : Int) (_h1 : okI a1) (a2 : Int) (_h2 : okI a2) (w : World) :
    Calls Try.prog 4 #[.int .i64 a0, .int .i64 a1, .int .i64 a2] w fun e w' => e = .returned (.bool true) ∧ Below w.heap.size w w' := by
  have g := Gr.refl w
  have heq := equalIn_arr4
  have n0 := num_lo a0; have n1 := num_hi a0; have m0 := num_lo a1; have m1 := num_hi a1
  obtain ⟨C, hC⟩ : ∃ C, max 1 (min a2 9007199254740991) = C := ⟨_, rfl⟩
  have c0 : 1 ≤ C := by omega
  have c1 : C ≤ 9007199254740991 := by omega
  have hA : max 0 (min a0 9007199254740991) = num a0 := rfl
  have hB : max 0 (min a1 9007199254740991) = num a1 := rfl
  have hnC : num C = C := num_id (by omega) c1
  have hx := exact_quo (num a0) (num a1) C (by omega)
  rw [num_num, num_num, hnC] at hx
  clear hnC
  have q0 := mulDiv_lo (num a0) (num a1) C; have q1 := mulDiv_hi (num a0) (num a1) C
  generalize num a0 = A at *
  generalize num a1 = D at *
  obtain ⟨q, hq⟩ : ∃ q, mulDiv A D C = q := ⟨_, rfl⟩
  obtain ⟨u, hu⟩ : ∃ u, mulUp A D C = u := ⟨_, rfl⟩
  rw [hq] at hx q0 q1; rw [hu] at hx
  obtain ⟨x1, x2, x3⟩ := hx
  have l1 : decide (A * D < q * C) = false := by rw [decide_eq_false_iff_not]; omega
  have hpq : q = 9007199254740991 ∧ u = 9007199254740991 ∨ (q == 9007199254740991) = false ∧ A * D < (q + 1) * C ∧ q + 1 ≤ 9007199254740991 ∧ (A * D = q * C ∧ u = q ∨ A * D ≠ q * C ∧ u = q + 1) := by
    by_cases h : q = 9007199254740991
    · exact Or.inl ⟨h, x3 h⟩
    · obtain ⟨y1, y2, y3⟩ := x2 h
      refine Or.inr ⟨by rw [beq_eq_false_iff_ne]; exact h, y1, by omega, ?_⟩
      by_cases g : A * D = q * C
      · exact Or.inl ⟨g, y2 g⟩
      · exact Or.inr ⟨g, y3 g⟩
  clear x1 x2 x3
  rcases hpq with ⟨rfl, rfl⟩ | ⟨hM, hlt, hq1, hpq⟩
  · skip
    go_enter Try.func4, Try.ntmps4
    go_wp2_with fail
    refine (works1_any g).mono ?_
    rintro e wa ⟨rfl, ga⟩
    go_wp2_with fail
    refine (mulDiv_gr _ _ _ ga).mono ?_
    rintro e wb ⟨rfl, gb⟩
    go_wp2_with fail
    refine (mulUp_gr _ _ _ gb).mono ?_
    rintro e wx ⟨rfl, gx⟩
    go_wp2_with fail
    refine (limbs_at _ _ _ ⟨by omega, by omega, by omega, by omega⟩).mono ?_
    rintro e w1 ⟨rfl, rfl⟩
    go_wp2_with fail
    refine (limbs_at _ _ _ ⟨by omega, by omega, by omega, by omega⟩).mono ?_
    rintro e w2 ⟨rfl, rfl⟩
    go_wp2_with fail
    refine (less_gr _ _ (Gr.alloc (Gr.alloc (Gr.alloc (Gr.alloc (by assumption) _) _) _) _)).mono ?_
    rintro e w3 ⟨rfl, g3, hb3⟩
    obtain ⟨p0, p1, p2, p3⟩ := agg4_cells (at_old hb3 (by simp) (old_at _ (new_at _ _)))
    obtain ⟨r0, r1, r2, r3⟩ := agg4_cells (at_old hb3 (by simp) (new_at _ _))
    simp only [World.size_alloc] at p0 p1 p2 p3 r0 r1 r2 r3
    have hz3 := hb3.size
    simp only [World.size_alloc] at hz3
    have HB3 := Lib.hid hb3; clear hb3 HB3
    go_wp2_with fail
    go_ret
    exact ⟨rfl, g3.1⟩
  · have l2 : decide (A * D < (q + 1) * C) = true := by rw [decide_eq_true_iff]; exact hlt
    clear hlt
    have hw1 : IntKind.i64.wrap (q + 1) = q + 1 := IntWalk.i64_in _ (by omega)
    rcases hpq with ⟨he, hu1⟩ | ⟨hne, hu1⟩
    · subst hu1
      obtain ⟨N, hN⟩ : ∃ N, A * D = N := ⟨_, rfl⟩
      have hN2 : u * C = N := by rw [← he]; exact hN
      rw [hN, hN2] at l1; rw [hN] at l2; clear he
      go_enter Try.func4, Try.ntmps4
      go_wp2_with fail
      refine (works1_any g).mono ?_
      rintro e wa ⟨rfl, ga⟩
      go_wp2_with fail
      refine (mulDiv_gr _ _ _ ga).mono ?_
      rintro e wb ⟨rfl, gb⟩
      go_wp2_with fail
      refine (mulUp_gr _ _ _ gb).mono ?_
      rintro e wx ⟨rfl, gx⟩
      go_wp2_with fail
      refine (limbs_at _ _ _ ⟨by omega, by omega, by omega, by omega⟩).mono ?_
      rintro e w1 ⟨rfl, rfl⟩
      go_wp2_with fail
      refine (limbs_at _ _ _ ⟨by omega, by omega, by omega, by omega⟩).mono ?_
      rintro e w2 ⟨rfl, rfl⟩
      go_wp2_with fail
      refine (less_gr _ _ (Gr.alloc (Gr.alloc (Gr.alloc (Gr.alloc (by assumption) _) _) _) _)).mono ?_
      rintro e w3 ⟨rfl, g3, hb3⟩
      obtain ⟨p0, p1, p2, p3⟩ := agg4_cells (at_old hb3 (by simp) (old_at _ (new_at _ _)))
      obtain ⟨r0, r1, r2, r3⟩ := agg4_cells (at_old hb3 (by simp) (new_at _ _))
      simp only [World.size_alloc] at p0 p1 p2 p3 r0 r1 r2 r3
      have hz3 := hb3.size
      simp only [World.size_alloc] at hz3
      have HB3 := Lib.hid hb3; clear hb3 HB3
      go_wp2_with fail
      have k0 : wx.heap.size + 1 + 1 < w3.heap.size := by omega
      have k1 : wx.heap.size + 1 + 1 + 1 < w3.heap.size := by omega
      go_region_held3 (fun w' => w'.cell? ⟨wx.heap.size + 1 + 1, 0, none⟩ = some (.int .i64 (d0 N)) ∧ w'.cell? ⟨wx.heap.size + 1 + 1, 1, none⟩ = some (.int .i64 (d1 N)) ∧ w'.cell? ⟨wx.heap.size + 1 + 1, 2, none⟩ = some (.int .i64 (d2 N)) ∧ w'.cell? ⟨wx.heap.size + 1 + 1, 3, none⟩ = some (.int .i64 (d3 N))) (go_keep) (first | (go_at_call 45; refine (limbs_at _ _ _ ⟨by omega, by omega, by omega, by omega⟩).mono ?_; rintro e wA ⟨rfl, rfl⟩) | (go_at_call 46; refine (less_any _ _ _).mono ?_; rintro e wB ⟨rfl, hbB⟩; have hbC : Below w3.heap.size w3 wB := (by first | exact ((Below.refl _ w3).drew.alloc (Nat.le_refl _) _).trans (hbB.mono (by simp)) | exact (((Below.refl _ w3).alloc (Nat.le_refl _) _).drew).trans (hbB.mono (by simp))); have gB : w.heap.size ≤ w.heap.size ∧ Gr w.heap.size w wB := ⟨Nat.le_refl _, g3.step hbC⟩; obtain ⟨z0, z1, z2, z3⟩ := keep4 hbC k0 p0 p1 p2 p3; obtain ⟨y0, y1, y2, y3⟩ := keep4 hbC k1 r0 r1 r2 r3; clear hbB hbC))
      go_wp2_with fail
      go_ret
      exact ⟨rfl, by have h := ‹_ ∧ Gr w.heap.size w _›; exact h.2.1⟩
    · skip
      have hu2 : (u == q) = false := by rw [beq_eq_false_iff_ne]; omega
      have hd := digits_ne hne
      go_enter Try.func4, Try.ntmps4
      go_wp2_with fail
      refine (works1_any g).mono ?_
      rintro e wa ⟨rfl, ga⟩
      go_wp2_with fail
      refine (mulDiv_gr _ _ _ ga).mono ?_
      rintro e wb ⟨rfl, gb⟩
      go_wp2_with fail
      refine (mulUp_gr _ _ _ gb).mono ?_
      rintro e wx ⟨rfl, gx⟩
      go_wp2_with fail
      refine (limbs_at _ _ _ ⟨by omega, by omega, by omega, by omega⟩).mono ?_
      rintro e w1 ⟨rfl, rfl⟩
      go_wp2_with fail
      refine (limbs_at _ _ _ ⟨by omega, by omega, by omega, by omega⟩).mono ?_
      rintro e w2 ⟨rfl, rfl⟩
      go_wp2_with fail
      refine (less_gr _ _ (Gr.alloc (Gr.alloc (Gr.alloc (Gr.alloc (by assumption) _) _) _) _)).mono ?_
      rintro e w3 ⟨rfl, g3, hb3⟩
      obtain ⟨p0, p1, p2, p3⟩ := agg4_cells (at_old hb3 (by simp) (old_at _ (new_at _ _)))
      obtain ⟨r0, r1, r2, r3⟩ := agg4_cells (at_old hb3 (by simp) (new_at _ _))
      simp only [World.size_alloc] at p0 p1 p2 p3 r0 r1 r2 r3
      have hz3 := hb3.size
      simp only [World.size_alloc] at hz3
      have HB3 := Lib.hid hb3; clear hb3 HB3
      go_wp2_with fail
      have k0 : wx.heap.size + 1 + 1 < w3.heap.size := by omega
      have k1 : wx.heap.size + 1 + 1 + 1 < w3.heap.size := by omega
      go_region_held3 (fun w' => w'.cell? ⟨wx.heap.size + 1 + 1, 0, none⟩ = some (.int .i64 (d0 (A * D))) ∧ w'.cell? ⟨wx.heap.size + 1 + 1, 1, none⟩ = some (.int .i64 (d1 (A * D))) ∧ w'.cell? ⟨wx.heap.size + 1 + 1, 2, none⟩ = some (.int .i64 (d2 (A * D))) ∧ w'.cell? ⟨wx.heap.size + 1 + 1, 3, none⟩ = some (.int .i64 (d3 (A * D)))) (go_keep) (first | (go_at_call 45; refine (limbs_at _ _ _ ⟨by omega, by omega, by omega, by omega⟩).mono ?_; rintro e wA ⟨rfl, rfl⟩) | (go_at_call 46; refine (less_any _ _ _).mono ?_; rintro e wB ⟨rfl, hbB⟩; have hbC : Below w3.heap.size w3 wB := (by first | exact ((Below.refl _ w3).drew.alloc (Nat.le_refl _) _).trans (hbB.mono (by simp)) | exact (((Below.refl _ w3).alloc (Nat.le_refl _) _).drew).trans (hbB.mono (by simp))); have gB : w.heap.size ≤ w.heap.size ∧ Gr w.heap.size w wB := ⟨Nat.le_refl _, g3.step hbC⟩; obtain ⟨z0, z1, z2, z3⟩ := keep4 hbC k0 p0 p1 p2 p3; obtain ⟨y0, y1, y2, y3⟩ := keep4 hbC k1 r0 r1 r2 r3; clear hbB hbC))
      go_wp2_with fail
      go_ret
      exact ⟨rfl, by have h := ‹_ ∧ Gr w.heap.size w _›; exact h.2.1⟩

end Go.Proofs.Ytcholjdbmmgakaa
