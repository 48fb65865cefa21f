/- A limit and its reference, side by side; sounderlaw15.same. -/
import Derived.Test.YtcholjdbmmgakaaAmplC
import Derived.Test.YtcholjdbmmgakaaAmplMath
namespace Go.Proofs.Ytcholjdbmmgakaa
open Go.RowKit Sat

/-- A limit and a reference in memory of the call's own. -/
structure PW (a m : Nat) (g s : Int) (v : Bool) (g' s' : Int) (v' : Bool) (B : Nat) (w0 w : World) : Prop where
  lim : Lim a g s v w
  ref : RLim m g' s' v' w
  gr : Gr B w0 w
  ha : B ≤ a
  hm : B ≤ m
  ne : a ≠ m
section
variable {a m x : Nat} {g s g' s' : Int} {v v' : Bool} {B : Nat} {w0 w w' : World}
theorem PW.step (h : PW a m g s v g' s' v' B w0 w) (b : Below w.heap.size w w') : PW a m g s v g' s' v' B w0 w' := ⟨h.lim.below b, h.ref.below b, h.gr.step b, h.ha, h.hm, h.ne⟩
theorem PW.drew (h : PW a m g s v g' s' v' B w0 w) : PW a m g s v g' s' v' B w0 w.drew := ⟨h.lim, h.ref, h.gr.drew, h.ha, h.hm, h.ne⟩
theorem PW.drewN (h : PW a m g s v g' s' v' B w0 w) (n : Nat) : PW a m g s v g' s' v' B w0 (w.drewN n) := ⟨h.lim, h.ref, h.gr.drewN n, h.ha, h.hm, h.ne⟩
theorem PW.cha {g2 s2 : Int} {v2 : Bool} (h : PW a m g s v g' s' v' B w0 w) (l : Lim a g2 s2 v2 w') (c : Ch a w w') : PW a m g2 s2 v2 g' s' v' B w0 w' := ⟨l, c.at (Ne.symm h.ne) h.ref, h.gr.ch c h.ha, h.ha, h.hm, h.ne⟩
theorem PW.chm {g2 s2 : Int} {v2 : Bool} (h : PW a m g s v g' s' v' B w0 w) (l : RLim m g2 s2 v2 w') (c : Ch m w w') : PW a m g s v g2 s2 v2 B w0 w' := ⟨c.at h.ne h.lim, l, h.gr.ch c h.hm, h.ha, h.hm, h.ne⟩
theorem PW.chx (h : PW a m g s v g' s' v' B w0 w) (c : Ch x w w') (hx : B ≤ x) (na : a ≠ x) (nm : m ≠ x) : PW a m g s v g' s' v' B w0 w' := ⟨c.at na h.lim, c.at nm h.ref, h.gr.ch c hx, h.ha, h.hm, h.ne⟩
theorem PW.alt (h : PW a m g s v g' s' v' B w0 w) : a < w.heap.size := lt_of_block h.lim
theorem PW.mlt (h : PW a m g s v g' s' v' B w0 w) : m < w.heap.size := lt_of_block h.ref
theorem got_pw (n : Int) (h : PW a m g s v g' s' v' B w0 w) : Calls Try.prog 58 #[.pointer (some ⟨a, 0, none⟩), .int .i64 n] w fun e w' => e = .returned (.int .i64 (gotE n)) ∧ PW a m (gotG g n) s v g' s' v' B w0 w' ∧ Ch a w w' :=
  (amplGot_any a g s v n w h.lim).mono fun _ _ ⟨he, hl, hc⟩ => ⟨he, h.cha hl hc, hc⟩
theorem rgot_pw (n : Int) (h : PW a m g s v g' s' v' B w0 w) : Calls Try.prog 67 #[.pointer (some ⟨m, 0, none⟩), .int .i64 n] w fun e w' => e = .returned (.int .i64 (gotE n)) ∧ PW a m g s v (gotG g' n) s' v' B w0 w' ∧ Ch m w w' :=
  (r15Got_any m g' s' v' n w h.ref).mono fun _ _ ⟨he, hl, hc⟩ => ⟨he, h.chm hl hc, hc⟩
theorem sent_pw (n : Int) (h : PW a m g s v g' s' v' B w0 w) : Calls Try.prog 59 #[.pointer (some ⟨a, 0, none⟩), .int .i64 n] w fun e w' => e = .returned (.int .i64 (sentE g s v n)) ∧ PW a m g (sentS g s v n) v g' s' v' B w0 w' ∧ Ch a w w' :=
  (amplSent_any a g s v n w h.lim).mono fun _ _ ⟨he, hl, hc⟩ => ⟨he, h.cha hl hc, hc⟩
theorem rsent_pw (n : Int) (h : PW a m g s v g' s' v' B w0 w) : Calls Try.prog 68 #[.pointer (some ⟨m, 0, none⟩), .int .i64 n] w fun e w' => e = .returned (.int .i64 (sentE g' s' v' n)) ∧ PW a m g s v g' (sentS g' s' v' n) v' B w0 w' ∧ Ch m w w' :=
  (r15Sent_any m g' s' v' n w h.ref).mono fun _ _ ⟨he, hl, hc⟩ => ⟨he, h.chm hl hc, hc⟩
theorem validate_pw (h : PW a m g s v g' s' v' B w0 w) : Calls Try.prog 65 #[.pointer (some ⟨a, 0, none⟩)] w fun e w' => e = .returned (.int .i64 0) ∧ PW a m g s true g' s' v' B w0 w' ∧ Ch a w w' :=
  (amplValidate_any a g s v w h.lim).mono fun _ _ ⟨he, hl, hc⟩ => ⟨he, h.cha hl hc, hc⟩
theorem rvalidate_pw (h : PW a m g s v g' s' v' B w0 w) : Calls Try.prog 72 #[.pointer (some ⟨m, 0, none⟩)] w fun e w' => e = .returned (.int .i64 0) ∧ PW a m g s v g' s' true B w0 w' ∧ Ch m w w' :=
  (r15Validate_any m g' s' v' w h.ref).mono fun _ _ ⟨he, hl, hc⟩ => ⟨he, h.chm hl hc, hc⟩
end

/-- The same, where nothing that was there is written. -/
structure SW (a m : Nat) (g s : Int) (v : Bool) (B : Nat) (w0 w : World) : Prop where
  lim : Lim a g s v w
  ref : RLim m g s v w
  gr : Gr B w0 w
section
variable {a m : Nat} {g s : Int} {v : Bool} {B : Nat} {w0 w w' : World}
theorem SW.step (h : SW a m g s v B w0 w) (b : Below w.heap.size w w') : SW a m g s v B w0 w' := ⟨h.lim.below b, h.ref.below b, h.gr.step b⟩
theorem SW.drew (h : SW a m g s v B w0 w) : SW a m g s v B w0 w.drew := ⟨h.lim, h.ref, h.gr.drew⟩
theorem SW.drewN (h : SW a m g s v B w0 w) (n : Nat) : SW a m g s v B w0 (w.drewN n) := ⟨h.lim, h.ref, h.gr.drewN n⟩
theorem SW.hold (h : SW a m g s v B w0 w) : w.cell? ⟨m, 0, none⟩ = some (.int .i64 g) ∧ w.cell? ⟨m, 1, none⟩ = some (.int .i64 s) ∧ w.cell? ⟨m, 2, none⟩ = some (.bool v) ∧ SW a m g s v B w0 w :=
  ⟨cellOf h.ref rfl, cellOf h.ref rfl, cellOf h.ref rfl, h⟩
theorem valid_sw (h : SW a m g s v B w0 w) : Calls Try.prog 64 #[.pointer (some ⟨a, 0, none⟩)] w fun e w' => e = .returned (.bool v) ∧ SW a m g s v B w0 w' :=
  (amplValid_any a g s v w h.lim).mono fun _ _ ⟨he, hb⟩ => ⟨he, hb ▸ h⟩
theorem left_sw (h : SW a m g s v B w0 w) : Calls Try.prog 61 #[.pointer (some ⟨a, 0, none⟩)] w fun e w' => e = .returned (.int .i64 (leftOf g s v)) ∧ SW a m g s v B w0 w' :=
  (amplLeft_any a g s v w h.lim).mono fun _ _ ⟨he, hb⟩ => ⟨he, h.step hb⟩
theorem rleft_sw (h : SW a m g s v B w0 w) : Calls Try.prog 117 #[.pointer (some ⟨m, 0, none⟩)] w fun e w' => e = .returned (.int .i64 (leftOf g s v)) ∧ SW a m g s v B w0 w' :=
  (r15Left_any m g s v w h.ref).mono fun _ _ ⟨he, hb⟩ => ⟨he, h.step hb⟩
theorem can_sw (n : Int) (h : SW a m g s v B w0 w) : Calls Try.prog 63 #[.pointer (some ⟨a, 0, none⟩), .int .i64 n] w fun e w' => e = .returned (.bool (canB g s v n)) ∧ SW a m g s v B w0 w' :=
  (amplCan_any a g s v n w h.lim).mono fun _ _ ⟨he, hb⟩ => ⟨he, h.step hb⟩
theorem rcan_sw (n : Int) (h : SW a m g s v B w0 w) : Calls Try.prog 118 #[.pointer (some ⟨m, 0, none⟩), .int .i64 n] w fun e w' => e = .returned (.bool (canB g s v n)) ∧ SW a m g s v B w0 w' :=
  (r15Can_any m g s v n w h.ref).mono fun _ _ ⟨he, hb⟩ => ⟨he, h.step hb⟩
theorem totals_sw (h : SW a m g s v B w0 w) : Calls Try.prog 60 #[.pointer (some ⟨a, 0, none⟩)] w fun e w' => e = .returned (.tuple #[.int .i64 g, .int .i64 s]) ∧ SW a m g s v B w0 w' :=
  (amplTotals_any a g s v w h.lim).mono fun _ _ ⟨he, n, hw⟩ => ⟨he, hw ▸ h.drewN n⟩
end

set_option maxRecDepth 100000 in
set_option maxHeartbeats 2000000 in
theorem same15_any (a m : Nat) (g s n : Int) (v : Bool) (w : World) (hl : Lim a g s v w) (hr : RLim m g s v w) :
    Calls Try.prog 71 #[.pointer (some ⟨a, 0, none⟩), .pointer (some ⟨m, 0, none⟩), .int .i64 n] w fun e w' => e = .returned (.bool true) ∧ Below w.heap.size w w' := by
  have h0 : SW a m g s v w.heap.size w w := ⟨hl, hr, Gr.refl w⟩
  clear hl hr
  go_enter Try.func71, Try.ntmps71
  go_wp2_with fail
  refine (totals_sw h0).mono ?_
  rintro e w1 ⟨rfl, h1⟩
  obtain ⟨c0, c1, c2, h2⟩ := h1.hold
  clear h1
  go_wp2_with fail
  go_region_held3 (fun w' => w'.cell? ⟨m, 0, none⟩ = some (.int .i64 g) ∧ w'.cell? ⟨m, 1, none⟩ = some (.int .i64 s) ∧ w'.cell? ⟨m, 2, none⟩ = some (.bool v) ∧ SW a m g s v w.heap.size w w') (first | exact ⟨by assumption, by assumption, by assumption, by assumption⟩ | exact SW.hold (by first | assumption | exact SW.drew (by assumption))) (first | (go_at_call 64; refine (valid_sw (by first | assumption | exact SW.drew (by assumption))).mono ?_; rintro e wB ⟨rfl, hB⟩) | (go_at_call 61; refine (left_sw (by first | assumption | exact SW.drew (by assumption))).mono ?_; rintro e wB ⟨rfl, hB⟩) | (go_at_call 117; refine (rleft_sw (by first | assumption | exact SW.drew (by assumption))).mono ?_; rintro e wB ⟨rfl, hB⟩) | (go_at_call 63; refine (can_sw _ (by first | assumption | exact SW.drew (by assumption))).mono ?_; rintro e wB ⟨rfl, hB⟩) | (go_at_call 118; refine (rcan_sw _ (by first | assumption | exact SW.drew (by assumption))).mono ?_; rintro e wB ⟨rfl, hB⟩))
  go_wp2_with fail
  go_ret
  exact ⟨rfl, (show SW a m g s v w.heap.size w _ from (by first | assumption | exact SW.drew (by assumption))).gr.1⟩

end Go.Proofs.Ytcholjdbmmgakaa
