/- A pacer through a law; sounderlaw14.works; a pacer and its reference side by side; sounderlaw14.same. -/
import Derived.Test.YtcholjdbmmgakaaPaceB
namespace Go.Proofs.Ytcholjdbmmgakaa
open Go.RowKit Sat

/-- A pacer in memory of the call's own. -/
structure PK (p b : Nat) (s : BS) (x y : Int) (B : Nat) (w0 w : World) : Prop where
  pq : Pq p b s x y w
  gr : Gr B w0 w
  hp : B ≤ p
  hb : B ≤ b
section
variable {p b : Nat} {s s' : BS} {x y x' y' : Int} {B : Nat} {w0 w w' : World}
theorem PK.step (h : PK p b s x y B w0 w) (g : Below w.heap.size w w') : PK p b s x y B w0 w' := ⟨h.pq.step g, h.gr.step g, h.hp, h.hb⟩
theorem PK.drew (h : PK p b s x y B w0 w) : PK p b s x y B w0 w.drew := ⟨h.pq.drew, h.gr.drew, h.hp, h.hb⟩
theorem new_pk {u t : Int} (hu : BS.newE u t = 0) (h : Gr B w0 w) : Calls Try.prog 89 #[.int .i64 u, .int .i64 t] w fun e w' => ∃ q, e = .returned (.tuple #[.pointer (some ⟨q, 0, none⟩), .int .i64 0]) ∧ PK q w.heap.size (BS.new u t) 0 1 B w0 w' :=
  (pNew_yes u t w hu).mono fun _ _ ⟨q, he, hq, hb, hl⟩ => ⟨q, he, hq, h.step hb, (by have := h.2; omega), h.2⟩
theorem set_pk {t c m : Int} (E : Int) (he : s.setE x y t c m = E) (hs : s.setS x y t c m = s') (hx : s.setX x y t c m = x') (hy : s.setY x y t c m = y') (h : PK p b s x y B w0 w) : Calls Try.prog 92 #[.pointer (some ⟨p, 0, none⟩), .int .i64 t, .int .i64 c, .int .i64 m] w fun e w' => e = .returned (.int .i64 E) ∧ PK p b s' x' y' B w0 w' ∧ Ch2 p b w w' :=
  (pSet_any p b s x y t c m w h.pq).mono fun _ _ ⟨h1, h2, h3⟩ => ⟨he ▸ h1, ⟨hs ▸ hx ▸ hy ▸ h2, h.gr.ch2 h3 h.hp h.hb, h.hp, h.hb⟩, h3⟩
theorem send_pk {t z : Int} (E : Int) (he : s.sendE x y t z = E) (hs : s.sent x y t z = s') (h : PK p b s x y B w0 w) : Calls Try.prog 94 #[.pointer (some ⟨p, 0, none⟩), .int .i64 t, .int .i64 z] w fun e w' => ∃ b', e = .returned (.int .i64 E) ∧ PK p b' s' x y B w0 w' ∧ Ch p w w' :=
  (pSend_any p b s x y t z w h.pq).mono fun _ _ ⟨h1, h2, b', h3, h4⟩ => ⟨b', he ▸ h1, ⟨hs ▸ h3, h.gr.ch h2 h.hp, h.hp, by rcases h4 with g | g; (rw [g]; exact h.hb); exact Nat.le_trans h.gr.2 g⟩, h2⟩
theorem can_pk {t z : Int} (E : Bool) (he : s.canB x y t z = E) (h : PK p b s x y B w0 w) : Calls Try.prog 102 #[.pointer (some ⟨p, 0, none⟩), .int .i64 t, .int .i64 z] w fun e w' => e = .returned (.bool E) ∧ PK p b s x y B w0 w' ∧ Below w.heap.size w w' :=
  (pCan_any p b s x y t z w h.pq).mono fun _ _ ⟨h1, h2⟩ => ⟨he ▸ h1, h.step h2, h2⟩
theorem when_pk {z : Int} (E : Int) (he : s.whenP x y z = E) (h : PK p b s x y B w0 w) : Calls Try.prog 101 #[.pointer (some ⟨p, 0, none⟩), .int .i64 z] w fun e w' => e = .returned (.int .i64 E) ∧ PK p b s x y B w0 w' ∧ Below w.heap.size w w' :=
  (pWhen_any p b s x y z w h.pq).mono fun _ _ ⟨h1, h2⟩ => ⟨he ▸ h1, h.step h2, h2⟩
theorem left_pk {t : Int} (E : Int) (he : s.leftP x y t = E) (h : PK p b s x y B w0 w) : Calls Try.prog 105 #[.pointer (some ⟨p, 0, none⟩), .int .i64 t] w fun e w' => e = .returned (.int .i64 E) ∧ PK p b s x y B w0 w' ∧ Below w.heap.size w w' :=
  (pLeft_any p b s x y t w h.pq).mono fun _ _ ⟨h1, h2⟩ => ⟨he ▸ h1, h.step h2, h2⟩
theorem rate_pk (h : PK p b s x y B w0 w) : Calls Try.prog 103 #[.pointer (some ⟨p, 0, none⟩)] w fun e w' => e = .returned (.agg #[.int .i64 x, .int .i64 y]) ∧ PK p b s x y B w0 w' ∧ Below w.heap.size w w' :=
  (pRate_any p b s x y w h.pq).mono fun _ _ ⟨h1, h2⟩ => ⟨h1, h.step h2, h2⟩
end

theorem w14_n0 : BS.newE 3000 0 = 0 := by decide +kernel
theorem w14_n1 : BS.new 3000 0 = ⟨3000, 3000, 0, 0, 0, 0⟩ := by decide +kernel
theorem w14_a0 : BS.setE ⟨3000, 3000, 0, 0, 0, 0⟩ 0 1 0 12000 6000 = 0 := by decide +kernel
theorem w14_a1 : BS.setS ⟨3000, 3000, 0, 0, 0, 0⟩ 0 1 0 12000 6000 = ⟨3000, 3000, 0, 0, 0, 1⟩ := by decide +kernel
theorem w14_a2 : BS.setX ⟨3000, 3000, 0, 0, 0, 0⟩ 0 1 0 12000 6000 = 60000 := by decide +kernel
theorem w14_a3 : BS.setY ⟨3000, 3000, 0, 0, 0, 0⟩ 0 1 0 12000 6000 = 24000 := by decide +kernel
theorem w14_b0 : BS.sendE ⟨3000, 3000, 0, 0, 0, 1⟩ 60000 24000 0 1200 = 0 := by decide +kernel
theorem w14_b1 : BS.sent ⟨3000, 3000, 0, 0, 0, 1⟩ 60000 24000 0 1200 = ⟨3000, 1800, 0, 0, 60000, 24000⟩ := by decide +kernel
theorem w14_c0 : BS.sendE ⟨3000, 1800, 0, 0, 60000, 24000⟩ 60000 24000 0 1200 = 0 := by decide +kernel
theorem w14_c1 : BS.sent ⟨3000, 1800, 0, 0, 60000, 24000⟩ 60000 24000 0 1200 = ⟨3000, 600, 0, 0, 60000, 24000⟩ := by decide +kernel
theorem w14_d0 : BS.sendE ⟨3000, 600, 0, 0, 60000, 24000⟩ 60000 24000 0 1200 = 213 := by decide +kernel
theorem w14_d1 : BS.sent ⟨3000, 600, 0, 0, 60000, 24000⟩ 60000 24000 0 1200 = ⟨3000, 600, 0, 0, 60000, 24000⟩ := by decide +kernel
theorem w14_e0 : BS.whenP ⟨3000, 600, 0, 0, 60000, 24000⟩ 60000 24000 1200 = 240 := by decide +kernel
theorem w14_e1 : BS.leftP ⟨3000, 600, 0, 0, 60000, 24000⟩ 60000 24000 100 = 850 := by decide +kernel
theorem w14_f0 : BS.sendE ⟨3000, 600, 0, 0, 60000, 24000⟩ 60000 24000 239 1200 = 213 := by decide +kernel
theorem w14_f1 : BS.sent ⟨3000, 600, 0, 0, 60000, 24000⟩ 60000 24000 239 1200 = ⟨3000, 600, 0, 0, 60000, 24000⟩ := by decide +kernel
theorem w14_g0 : BS.sendE ⟨3000, 600, 0, 0, 60000, 24000⟩ 60000 24000 240 1200 = 0 := by decide +kernel
theorem w14_g1 : BS.sent ⟨3000, 600, 0, 0, 60000, 24000⟩ 60000 24000 240 1200 = ⟨3000, 0, 0, 240, 60000, 24000⟩ := by decide +kernel
theorem w14_h0 : BS.canB ⟨3000, 0, 0, 240, 60000, 24000⟩ 60000 24000 240 1 = false := by decide +kernel
theorem w14_h1 : BS.leftP ⟨3000, 0, 0, 240, 60000, 24000⟩ 60000 24000 10000 = 3000 := by decide +kernel
theorem w14_i0 : BS.setE ⟨3000, 0, 0, 240, 60000, 24000⟩ 60000 24000 200 1 1 = 210 := by decide +kernel
theorem w14_i1 : BS.setS ⟨3000, 0, 0, 240, 60000, 24000⟩ 60000 24000 200 1 1 = ⟨3000, 0, 0, 240, 60000, 24000⟩ := by decide +kernel
theorem w14_i2 : BS.setX ⟨3000, 0, 0, 240, 60000, 24000⟩ 60000 24000 200 1 1 = 60000 := by decide +kernel
theorem w14_i3 : BS.setY ⟨3000, 0, 0, 240, 60000, 24000⟩ 60000 24000 200 1 1 = 24000 := by decide +kernel
theorem w14_j0 : BS.setE ⟨3000, 0, 0, 240, 60000, 24000⟩ 60000 24000 300 0 1 = 2 := by decide +kernel
theorem w14_j1 : BS.setS ⟨3000, 0, 0, 240, 60000, 24000⟩ 60000 24000 300 0 1 = ⟨3000, 0, 0, 240, 60000, 24000⟩ := by decide +kernel
theorem w14_j2 : BS.setX ⟨3000, 0, 0, 240, 60000, 24000⟩ 60000 24000 300 0 1 = 60000 := by decide +kernel
theorem w14_j3 : BS.setY ⟨3000, 0, 0, 240, 60000, 24000⟩ 60000 24000 300 0 1 = 24000 := by decide +kernel
theorem w14_k0 : BS.sendE ⟨3000, 0, 0, 240, 60000, 24000⟩ 60000 24000 300 0 = 2 := by decide +kernel
theorem w14_k1 : BS.sent ⟨3000, 0, 0, 240, 60000, 24000⟩ 60000 24000 300 0 = ⟨3000, 0, 0, 240, 60000, 24000⟩ := by decide +kernel
theorem w14_l0 : BS.setE ⟨3000, 0, 0, 240, 60000, 24000⟩ 60000 24000 300 2400 0 = 0 := by decide +kernel
theorem w14_l2 : BS.setX ⟨3000, 0, 0, 240, 60000, 24000⟩ 60000 24000 300 2400 0 = 12000 := by decide +kernel
theorem w14_l3 : BS.setY ⟨3000, 0, 0, 240, 60000, 24000⟩ 60000 24000 300 2400 0 = 1 := by decide +kernel

set_option maxRecDepth 100000 in
set_option maxHeartbeats 4000000 in
theorem works14_any {B : Nat} {w0 w : World} (h : Gr B w0 w) : Calls Try.prog 91 #[] w fun e w' => e = .returned (.bool true) ∧ Gr B w0 w' := by
  go_enter Try.func91, Try.ntmps91
  go_wp2_with fail
  refine (new_pk w14_n0 h).mono ?_
  rintro e w1 ⟨q, rfl, h⟩
  rw [w14_n1] at h
  go_wp2_with fail
  refine (set_pk 0 w14_a0 w14_a1 w14_a2 w14_a3 h).mono ?_
  rintro e w' ⟨rfl, h, _⟩
  go_wp2_with fail
  refine (send_pk 0 w14_b0 w14_b1 h).mono ?_
  rintro e w' ⟨b', rfl, h, _⟩
  go_wp2_with fail
  refine (send_pk 0 w14_c0 w14_c1 h).mono ?_
  rintro e w' ⟨b', rfl, h, _⟩
  go_wp2_with fail
  refine (send_pk 213 w14_d0 w14_d1 h).mono ?_
  rintro e w' ⟨b', rfl, h, _⟩
  go_wp2_with fail
  refine (when_pk 240 w14_e0 h).mono ?_
  rintro e w' ⟨rfl, h, _⟩
  go_wp2_with fail
  refine (left_pk 850 w14_e1 h).mono ?_
  rintro e w' ⟨rfl, h, _⟩
  go_wp2_with fail
  refine (send_pk 213 w14_f0 w14_f1 h).mono ?_
  rintro e w' ⟨b', rfl, h, _⟩
  go_wp2_with fail
  refine (send_pk 0 w14_g0 w14_g1 h).mono ?_
  rintro e w' ⟨b', rfl, h, _⟩
  go_wp2_with fail
  refine (can_pk false w14_h0 h).mono ?_
  rintro e w' ⟨rfl, h, _⟩
  go_wp2_with fail
  refine (left_pk 3000 w14_h1 h).mono ?_
  rintro e w' ⟨rfl, h, _⟩
  go_wp2_with fail
  refine (set_pk 210 w14_i0 w14_i1 w14_i2 w14_i3 h).mono ?_
  rintro e w' ⟨rfl, h, _⟩
  go_wp2_with fail
  refine (set_pk 2 w14_j0 w14_j1 w14_j2 w14_j3 h).mono ?_
  rintro e w' ⟨rfl, h, _⟩
  go_wp2_with fail
  refine (send_pk 2 w14_k0 w14_k1 h).mono ?_
  rintro e w' ⟨b', rfl, h, _⟩
  go_wp2_with fail
  refine (set_pk 0 w14_l0 rfl w14_l2 w14_l3 h).mono ?_
  rintro e w' ⟨rfl, h, _⟩
  go_wp2_with fail
  refine (rate_pk h).mono ?_
  rintro e w' ⟨rfl, h, _⟩
  go_wp2_with fail
  go_ret
  exact ⟨rfl, h.gr⟩

/-- Pacer and reference. -/
structure SP (p b m n K : Nat) (s : BS) (x y : Int) (B : Nat) (w0 w : World) : Prop where
  pq : Pq p b s x y w
  rq : RPq m n s x y w
  rt : Rt K x y w
  gr : Gr B w0 w
section
variable {p b m n K : Nat} {s : BS} {x y : Int} {B : Nat} {w0 w w' : World}
theorem SP.step (h : SP p b m n K s x y B w0 w) (g : Below w.heap.size w w') : SP p b m n K s x y B w0 w' := ⟨h.pq.step g, h.rq.step g, at_old g (lt_of_block h.rt) h.rt, h.gr.step g⟩
theorem SP.drew (h : SP p b m n K s x y B w0 w) : SP p b m n K s x y B w0 w.drew := ⟨h.pq.drew, h.rq.drew, h.rt, h.gr.drew⟩
theorem SP.hold (h : SP p b m n K s x y B w0 w) : w.cell? ⟨K, 0, none⟩ = some (.int .i64 x) ∧ w.cell? ⟨K, 1, none⟩ = some (.int .i64 y) ∧ w.cell? ⟨m, 1, none⟩ = some (.int .i64 x) ∧ w.cell? ⟨m, 2, none⟩ = some (.int .i64 y) ∧ SP p b m n K s x y B w0 w :=
  ⟨cellOf h.rt rfl, cellOf h.rt rfl, h.rq.hold.2.1, h.rq.hold.2.2, h⟩
theorem can_sp (t z : Int) (h : SP p b m n K s x y B w0 w) : Calls Try.prog 102 #[.pointer (some ⟨p, 0, none⟩), .int .i64 t, .int .i64 z] w fun e w' => e = .returned (.bool (s.canB x y t z)) ∧ SP p b m n K s x y B w0 w' := (pCan_any p b s x y t z w h.pq).mono fun _ _ ⟨h1, h2⟩ => ⟨h1, h.step h2⟩
theorem rcan_sp (t z : Int) (h : SP p b m n K s x y B w0 w) : Calls Try.prog 138 #[.pointer (some ⟨m, 0, none⟩), .int .i64 t, .int .i64 z] w fun e w' => e = .returned (.bool (s.canB x y t z)) ∧ SP p b m n K s x y B w0 w' := (rpCan_any m n s x y t z w h.rq).mono fun _ _ ⟨h1, h2⟩ => ⟨h1, h.step h2⟩
theorem when_sp (z : Int) (h : SP p b m n K s x y B w0 w) : Calls Try.prog 101 #[.pointer (some ⟨p, 0, none⟩), .int .i64 z] w fun e w' => e = .returned (.int .i64 (s.whenP x y z)) ∧ SP p b m n K s x y B w0 w' := (pWhen_any p b s x y z w h.pq).mono fun _ _ ⟨h1, h2⟩ => ⟨h1, h.step h2⟩
theorem rwhen_sp (z : Int) (h : SP p b m n K s x y B w0 w) : Calls Try.prog 139 #[.pointer (some ⟨m, 0, none⟩), .int .i64 z] w fun e w' => e = .returned (.int .i64 (s.whenP x y z)) ∧ SP p b m n K s x y B w0 w' := (rpWhen_any m n s x y z w h.rq).mono fun _ _ ⟨h1, h2⟩ => ⟨h1, h.step h2⟩
theorem left_sp (t : Int) (h : SP p b m n K s x y B w0 w) : Calls Try.prog 105 #[.pointer (some ⟨p, 0, none⟩), .int .i64 t] w fun e w' => e = .returned (.int .i64 (s.leftP x y t)) ∧ SP p b m n K s x y B w0 w' := (pLeft_any p b s x y t w h.pq).mono fun _ _ ⟨h1, h2⟩ => ⟨h1, h.step h2⟩
theorem rleft_sp (t : Int) (h : SP p b m n K s x y B w0 w) : Calls Try.prog 140 #[.pointer (some ⟨m, 0, none⟩), .int .i64 t] w fun e w' => e = .returned (.int .i64 (s.leftP x y t)) ∧ SP p b m n K s x y B w0 w' := (rpLeft_any m n s x y t w h.rq).mono fun _ _ ⟨h1, h2⟩ => ⟨h1, h.step h2⟩
end
set_option maxRecDepth 100000 in
set_option maxHeartbeats 4000000 in
theorem same14_any (p b m n : Nat) (s : BS) (x y t z : Int) (w : World) (hq : Pq p b s x y w) (hr : RPq m n s x y w) :
    Calls Try.prog 98 #[.pointer (some ⟨p, 0, none⟩), .pointer (some ⟨m, 0, none⟩), .int .i64 t, .int .i64 z] w fun e w' => e = .returned (.bool true) ∧ Below w.heap.size w w' := by
  have HQ := Lib.hid hq; have HR := Lib.hid hr
  clear hq hr
  go_enter Try.func98, Try.ntmps98
  go_wp2_with fail
  refine (pRate_any p b s x y _ HQ.out).mono ?_
  rintro e w1 ⟨rfl, b1⟩
  have h1 : SP p b m n w1.heap.size s x y w.heap.size w (w1.alloc (.cells #[.int .i64 x, .int .i64 y] 60 (0, 0))) := ⟨(HQ.out.step b1).step ((Below.refl _ _).alloc (Nat.le_refl _) _), (HR.out.step b1).step ((Below.refl _ _).alloc (Nat.le_refl _) _), new_at _ _, ((Gr.refl w).step b1).alloc _⟩
  obtain ⟨c0, c1, c2, c3, h2⟩ := h1.hold
  clear h1 b1
  go_wp2_with fail
  go_region_held3 (fun w' => w'.cell? ⟨w1.heap.size, 0, none⟩ = some (.int .i64 x) ∧ w'.cell? ⟨w1.heap.size, 1, none⟩ = some (.int .i64 y) ∧ w'.cell? ⟨m, 1, none⟩ = some (.int .i64 x) ∧ w'.cell? ⟨m, 2, none⟩ = some (.int .i64 y) ∧ SP p b m n w1.heap.size s x y w.heap.size w w') (first | exact ⟨by assumption, by assumption, by assumption, by assumption, by assumption⟩ | exact SP.hold (by first | assumption | exact SP.drew (by assumption))) (first | (go_at_call 102; refine (can_sp _ _ (by first | assumption | exact SP.drew (by assumption))).mono ?_; rintro e wB ⟨rfl, hB⟩) | (go_at_call 138; refine (rcan_sp _ _ (by first | assumption | exact SP.drew (by assumption))).mono ?_; rintro e wB ⟨rfl, hB⟩) | (go_at_call 101; refine (when_sp _ (by first | assumption | exact SP.drew (by assumption))).mono ?_; rintro e wB ⟨rfl, hB⟩) | (go_at_call 139; refine (rwhen_sp _ (by first | assumption | exact SP.drew (by assumption))).mono ?_; rintro e wB ⟨rfl, hB⟩) | (go_at_call 105; refine (left_sp _ (by first | assumption | exact SP.drew (by assumption))).mono ?_; rintro e wB ⟨rfl, hB⟩) | (go_at_call 140; refine (rleft_sp _ (by first | assumption | exact SP.drew (by assumption))).mono ?_; rintro e wB ⟨rfl, hB⟩))
  go_wp2_with fail
  go_ret
  exact ⟨rfl, (show SP p b m n w1.heap.size s x y w.heap.size w _ from (by first | assumption | exact SP.drew (by assumption))).gr.1⟩

end Go.Proofs.Ytcholjdbmmgakaa
