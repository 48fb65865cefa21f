/- A bucket and its reference, side by side; sounderlaw13.same. -/
import Derived.Test.YtcholjdbmmgakaaBuckRate
import Derived.Test.YtcholjdbmmgakaaBuckRefB
import Derived.Sort.AtCall
namespace Go.Proofs.Ytcholjdbmmgakaa
open Go.RowKit Sat

/-- A bucket and a reference in memory of the call's own. -/
structure PB (a m : Nat) (s s' : BS) (B : Nat) (w0 w : World) : Prop where
  bk : Bk a s w
  ref : RBk m s' w
  ok : s.Ok
  ok' : s'.Ok
  gr : Gr B w0 w
  ha : B ≤ a
  hm : B ≤ m
  ne : a ≠ m
section
variable {a m x : Nat} {s s' : BS} {B : Nat} {w0 w w' : World}
theorem PB.step (h : PB a m s s' B w0 w) (b : Below w.heap.size w w') : PB a m s s' B w0 w' := ⟨h.bk.below b, h.ref.below b, h.ok, h.ok', h.gr.step b, h.ha, h.hm, h.ne⟩
theorem PB.drew (h : PB a m s s' B w0 w) : PB a m s s' B w0 w.drew := ⟨h.bk, h.ref, h.ok, h.ok', h.gr.drew, h.ha, h.hm, h.ne⟩
theorem PB.cha {t : BS} (h : PB a m s s' B w0 w) (l : Bk a t w') (c : Ch a w w') (o : t.Ok) : PB a m t s' B w0 w' := ⟨l, c.at (Ne.symm h.ne) h.ref, o, h.ok', h.gr.ch c h.ha, h.ha, h.hm, h.ne⟩
theorem PB.chm {t : BS} (h : PB a m s s' B w0 w) (l : RBk m t w') (c : Ch m w w') (o : t.Ok) : PB a m s t B w0 w' := ⟨c.at h.ne h.bk, l, h.ok, o, h.gr.ch c h.hm, h.ha, h.hm, h.ne⟩
theorem PB.chx (h : PB a m s s' B w0 w) (c : Ch x w w') (hx : B ≤ x) (na : a ≠ x) (nm : m ≠ x) : PB a m s s' B w0 w' := ⟨c.at na h.bk, c.at nm h.ref, h.ok, h.ok', h.gr.ch c hx, h.ha, h.hm, h.ne⟩
theorem PB.alt (h : PB a m s s' B w0 w) : a < w.heap.size := lt_of_block h.bk
theorem PB.mlt (h : PB a m s s' B w0 w) : m < w.heap.size := lt_of_block h.ref
theorem fill_pb {t p q : Int} (h : PB a m s s' B w0 w) : Calls Try.prog 76 #[.pointer (some ⟨a, 0, none⟩), .int .i64 t, .agg #[.int .i64 p, .int .i64 q]] w fun e w' => e = .returned (.int .i64 (s.fillE t p q)) ∧ PB a m (s.filled t p q) s' B w0 w' ∧ Ch a w w' :=
  (bkFill_any a s t p q w h.bk h.ok).mono fun _ _ ⟨he, hl, hc⟩ => ⟨he, h.cha hl hc (BS.filled_ok h.ok t p q), hc⟩
theorem rfill_pb {t p q : Int} (h : PB a m s s' B w0 w) : Calls Try.prog 81 #[.pointer (some ⟨m, 0, none⟩), .int .i64 t, .agg #[.int .i64 p, .int .i64 q]] w fun e w' => e = .returned (.int .i64 (s'.fillE t p q)) ∧ PB a m s (s'.filled t p q) B w0 w' ∧ Ch m w w' :=
  (rbFill_any m s' t p q w h.ref h.ok').mono fun _ _ ⟨he, hl, hc⟩ => ⟨he, h.chm hl hc (BS.filled_ok h.ok' t p q), hc⟩
theorem take_pb {k : Int} (h : PB a m s s' B w0 w) : Calls Try.prog 75 #[.pointer (some ⟨a, 0, none⟩), .int .i64 k] w fun e w' => e = .returned (.int .i64 (s.takeE k)) ∧ PB a m (s.taken k) s' B w0 w' ∧ Ch a w w' :=
  (bkTake_any a s k w h.bk h.ok).mono fun _ _ ⟨he, hl, hc⟩ => ⟨he, h.cha hl hc (BS.taken_ok h.ok k), hc⟩
theorem rtake_pb {k : Int} (h : PB a m s s' B w0 w) : Calls Try.prog 82 #[.pointer (some ⟨m, 0, none⟩), .int .i64 k] w fun e w' => e = .returned (.int .i64 (s'.takeE k)) ∧ PB a m s (s'.taken k) B w0 w' ∧ Ch m w w' :=
  (rbTake_any m s' k w h.ref h.ok').mono fun _ _ ⟨he, hl, hc⟩ => ⟨he, h.chm hl hc (BS.taken_ok h.ok' k), hc⟩
theorem when_pb {k p q : Int} (h : PB a m s s' B w0 w) : Calls Try.prog 83 #[.pointer (some ⟨a, 0, none⟩), .int .i64 k, .agg #[.int .i64 p, .int .i64 q]] w fun e w' => e = .returned (.int .i64 (s.when k p q)) ∧ PB a m s s' B w0 w' ∧ Ch a w w' :=
  (bkWhen_any a s k p q w h.bk h.ok).mono fun _ _ ⟨he, hl, hc⟩ => ⟨he, h.cha hl hc h.ok, hc⟩
theorem rwhen_pb {k p q : Int} (h : PB a m s s' B w0 w) : Calls Try.prog 84 #[.pointer (some ⟨m, 0, none⟩), .int .i64 k, .agg #[.int .i64 p, .int .i64 q]] w fun e w' => e = .returned (.int .i64 (s'.when k p q)) ∧ PB a m s s' B w0 w' ∧ Below w.heap.size w w' :=
  (rbWhen_any m s' k p q w h.ref h.ok').mono fun _ _ ⟨he, hl⟩ => ⟨he, h.step hl, hl⟩
theorem PB.hold (h : PB a m s s' B w0 w) : w.cell? ⟨m, 1, none⟩ = some (.int .i64 s'.n) ∧ w.cell? ⟨m, 2, none⟩ = some (.int .i64 s'.r) ∧ w.cell? ⟨m, 3, none⟩ = some (.int .i64 s'.t) :=
  ⟨cellOf h.ref rfl, cellOf h.ref rfl, cellOf h.ref rfl⟩
end

set_option maxRecDepth 100000 in
set_option maxHeartbeats 2000000 in
theorem same13_any (a m : Nat) (s : BS) (w : World) (hl : Bk a s w) (hr : RBk m s w) (hs : s.Ok) :
    Calls Try.prog 87 #[.pointer (some ⟨a, 0, none⟩), .pointer (some ⟨m, 0, none⟩)] w fun e w' => e = .returned (.bool true) ∧ Below w.heap.size w w' := by
  have c1 : w.cell? ⟨m, 1, none⟩ = some (.int .i64 s.n) := cellOf hr rfl
  have c2 : w.cell? ⟨m, 2, none⟩ = some (.int .i64 s.r) := cellOf hr rfl
  have c3 : w.cell? ⟨m, 3, none⟩ = some (.int .i64 s.t) := cellOf hr rfl
  have HL := Lib.hid hl; clear hl hr
  go_enter Try.func87, Try.ntmps87
  go_wp2_with fail
  go_region_held3 (fun w' => w'.cell? ⟨m, 1, none⟩ = some (.int .i64 s.n) ∧ w'.cell? ⟨m, 2, none⟩ = some (.int .i64 s.r) ∧ w'.cell? ⟨m, 3, none⟩ = some (.int .i64 s.t)) (first | exact ⟨by assumption, by assumption, by assumption⟩ | go_simp) (first | (go_at_call 77; refine (bkTokens_any a s _ (by exact HL.out) hs).mono ?_; rintro e w' ⟨rfl, rfl⟩) | (go_at_call 78; refine (bkRest_any a s _ (by exact HL.out) hs).mono ?_; rintro e w' ⟨rfl, rfl⟩) | (go_at_call 88; refine (bkTime_any a s _ (by exact HL.out) hs).mono ?_; rintro e w' ⟨rfl, rfl⟩))
  go_wp2_with fail
  go_ret
  exact ⟨rfl, (Below.refl _ _).drew⟩

end Go.Proofs.Ytcholjdbmmgakaa
