/- A bucket through a law; sounderlaw13.works. -/
import Derived.Test.YtnmekhgilekofaaBuckE
import Derived.Test.YtnmekhgilekofaaAmplC
import Derived.Test.YtnmekhgilekofaaBuckF
namespace Go.Proofs.Ytnmekhgilekofaa
open Go.RowKit Sat

/-- Bucket a lies in memory of the call's own. -/
structure BW (a : Nat) (s : BS) (B : Nat) (w0 w : World) : Prop where
  bk : Bk a s w
  ok : s.Ok
  gr : Gr B w0 w
  ha : B ≤ a
section
variable {a : Nat} {s : BS} {B : Nat} {w0 w w' : World}
theorem BW.step (h : BW a s B w0 w) (g : Below w.heap.size w w') : BW a s B w0 w' := ⟨h.bk.below g, h.ok, h.gr.step g, h.ha⟩
theorem BW.drew (h : BW a s B w0 w) : BW a s B w0 w.drew := ⟨h.bk, h.ok, h.gr.drew, h.ha⟩
theorem BW.drewN (h : BW a s B w0 w) (n : Nat) : BW a s B w0 (w.drewN n) := ⟨h.bk, h.ok, h.gr.drewN n, h.ha⟩
theorem BW.to {s' : BS} (h : BW a s B w0 w) (b : Bk a s' w') (c : Ch a w w') (o : s'.Ok) : BW a s' B w0 w' := ⟨b, o, h.gr.ch c h.ha, h.ha⟩
theorem BW.chx {x : Nat} (h : BW a s B w0 w) (c : Ch x w w') (hx : B ≤ x) (na : a ≠ x) : BW a s B w0 w' := ⟨c.at na h.bk, h.ok, h.gr.ch c hx, h.ha⟩
theorem BW.lt (h : BW a s B w0 w) : a < w.heap.size := lt_of_block h.bk
theorem new_bw (b t : Int) (h : Gr B w0 w) (hb : BS.newE b t = 0) : Calls Try.prog 27 #[.int .i64 b, .int .i64 t] w fun e w' => e = .returned (.tuple #[.pointer (some ⟨w.heap.size, 0, none⟩), .int .i64 0]) ∧ BW w.heap.size (BS.new b t) B w0 w' ∧ Below w.heap.size w w' :=
  (bkNew_yes b t w hb).mono fun _ _ ⟨he, hl, hg⟩ => ⟨he, ⟨hl, BS.new_ok hb, h.step hg, h.2⟩, hg⟩
theorem take_bw (k : Int) (h : BW a s B w0 w) : Calls Try.prog 31 #[.pointer (some ⟨a, 0, none⟩), .int .i64 k] w fun e w' => e = .returned (.int .i64 (s.takeE k)) ∧ BW a (s.taken k) B w0 w' ∧ Ch a w w' :=
  (bkTake_any a s k w h.bk h.ok).mono fun _ _ ⟨he, hl, hc⟩ => ⟨he, h.to hl hc (BS.taken_ok h.ok k), hc⟩
theorem fill_bw (t x y : Int) (h : BW a s B w0 w) : Calls Try.prog 29 #[.pointer (some ⟨a, 0, none⟩), .int .i64 t, .agg #[.int .i64 x, .int .i64 y]] w fun e w' => e = .returned (.int .i64 (s.fillE t x y)) ∧ BW a (s.filled t x y) B w0 w' ∧ Ch a w w' :=
  (bkFill_any a s t x y w h.bk h.ok).mono fun _ _ ⟨he, hl, hc⟩ => ⟨he, h.to hl hc (BS.filled_ok h.ok t x y), hc⟩
theorem when_bw (k x y : Int) (h : BW a s B w0 w) : Calls Try.prog 36 #[.pointer (some ⟨a, 0, none⟩), .int .i64 k, .agg #[.int .i64 x, .int .i64 y]] w fun e w' => e = .returned (.int .i64 (s.when k x y)) ∧ BW a s B w0 w' ∧ Ch a w w' :=
  (bkWhen_any a s k x y w h.bk h.ok).mono fun _ _ ⟨he, hl, hc⟩ => ⟨he, h.to hl hc h.ok, hc⟩
theorem tokens_bw (h : BW a s B w0 w) : Calls Try.prog 30 #[.pointer (some ⟨a, 0, none⟩)] w fun e w' => e = .returned (.int .i64 s.n) ∧ w = w' := bkTokens_any a s w h.bk h.ok
theorem rest_bw (h : BW a s B w0 w) : Calls Try.prog 33 #[.pointer (some ⟨a, 0, none⟩)] w fun e w' => e = .returned (.int .i64 s.r) ∧ w = w' := bkRest_any a s w h.bk h.ok
theorem time_bw (h : BW a s B w0 w) : Calls Try.prog 34 #[.pointer (some ⟨a, 0, none⟩)] w fun e w' => e = .returned (.int .i64 s.t) ∧ w = w' := bkTime_any a s w h.bk h.ok
theorem copy_bw (h : BW a s B w0 w) : Calls Try.prog 32 #[.pointer (some ⟨a, 0, none⟩)] w fun e w' => e = .returned (.pointer (some ⟨w.heap.size, 0, none⟩)) ∧ BW w.heap.size s B w0 w' ∧ Below w.heap.size w w' :=
  (bkCopy_any a s w h.bk h.ok).mono fun _ _ ⟨he, hl, hg⟩ => ⟨he, ⟨hl, h.ok, h.gr.step hg, h.gr.2⟩, hg⟩
end

/-- The same with a rate beside it, in words that a walk can use. -/
structure WR (a : Nat) (s : BS) (K : Nat) (x y : Int) (B : Nat) (w0 w : World) : Prop where
  bw : BW a s B w0 w
  rt : Rt K x y w
  ne : K ≠ a
section
variable {a K : Nat} {s : BS} {x y : Int} {B : Nat} {w0 w w' : World}
theorem WR.step (h : WR a s K x y B w0 w) (g : Below w.heap.size w w') : WR a s K x y B w0 w' := ⟨h.bw.step g, at_old g (lt_of_block h.rt) h.rt, h.ne⟩
theorem WR.drew (h : WR a s K x y B w0 w) : WR a s K x y B w0 w.drew := ⟨h.bw.drew, h.rt, h.ne⟩
theorem WR.to {s' : BS} (h : WR a s K x y B w0 w) (b : BW a s' B w0 w') (c : Ch a w w') : WR a s' K x y B w0 w' := ⟨b, c.at h.ne h.rt, h.ne⟩
theorem WR.hold (h : WR a s K x y B w0 w) : w.cell? ⟨K, 0, none⟩ = some (.int .i64 x) ∧ w.cell? ⟨K, 1, none⟩ = some (.int .i64 y) ∧ WR a s K x y B w0 w := ⟨cellOf h.rt rfl, cellOf h.rt rfl, h⟩
theorem take_wr {s' : BS} (k E : Int) (he : s.takeE k = E) (hs : s.taken k = s') (h : WR a s K x y B w0 w) : Calls Try.prog 31 #[.pointer (some ⟨a, 0, none⟩), .int .i64 k] w fun e w' => e = .returned (.int .i64 E) ∧ w'.cell? ⟨K, 0, none⟩ = some (.int .i64 x) ∧ w'.cell? ⟨K, 1, none⟩ = some (.int .i64 y) ∧ WR a s' K x y B w0 w' :=
  (take_bw k h.bw).mono fun _ _ ⟨h1, h2, h3⟩ => ⟨he ▸ h1, (h.to (hs ▸ h2) h3).hold⟩
theorem fill_wr {s' : BS} (t p q E : Int) (he : s.fillE t p q = E) (hs : s.filled t p q = s') (h : WR a s K x y B w0 w) : Calls Try.prog 29 #[.pointer (some ⟨a, 0, none⟩), .int .i64 t, .agg #[.int .i64 p, .int .i64 q]] w fun e w' => e = .returned (.int .i64 E) ∧ w'.cell? ⟨K, 0, none⟩ = some (.int .i64 x) ∧ w'.cell? ⟨K, 1, none⟩ = some (.int .i64 y) ∧ WR a s' K x y B w0 w' :=
  (fill_bw t p q h.bw).mono fun _ _ ⟨h1, h2, h3⟩ => ⟨he ▸ h1, (h.to (hs ▸ h2) h3).hold⟩
theorem when_wr (k p q E : Int) (he : s.when k p q = E) (h : WR a s K x y B w0 w) : Calls Try.prog 36 #[.pointer (some ⟨a, 0, none⟩), .int .i64 k, .agg #[.int .i64 p, .int .i64 q]] w fun e w' => e = .returned (.int .i64 E) ∧ w'.cell? ⟨K, 0, none⟩ = some (.int .i64 x) ∧ w'.cell? ⟨K, 1, none⟩ = some (.int .i64 y) ∧ WR a s K x y B w0 w' :=
  (when_bw k p q h.bw).mono fun _ _ ⟨h1, h2, h3⟩ => ⟨he ▸ h1, (h.to h2 h3).hold⟩
theorem tokens_wr (h : WR a s K x y B w0 w) : Calls Try.prog 30 #[.pointer (some ⟨a, 0, none⟩)] w fun e w' => e = .returned (.int .i64 s.n) ∧ w = w' := tokens_bw h.bw
theorem rest_wr (h : WR a s K x y B w0 w) : Calls Try.prog 33 #[.pointer (some ⟨a, 0, none⟩)] w fun e w' => e = .returned (.int .i64 s.r) ∧ w = w' := rest_bw h.bw
theorem time_wr (h : WR a s K x y B w0 w) : Calls Try.prog 34 #[.pointer (some ⟨a, 0, none⟩)] w fun e w' => e = .returned (.int .i64 s.t) ∧ w = w' := time_bw h.bw
end

set_option maxRecDepth 100000 in
set_option maxHeartbeats 4000000 in
theorem works13_any {B : Nat} {w0 w : World} (h : Gr B w0 w) : Calls Try.prog 25 #[] w fun e w' => e = .returned (.bool true) ∧ Gr B w0 w' := by
  have hr := new_at w (.cells #[.int .i64 3, .int .i64 7] 52 (0, 0))
  have hg := h.alloc (.cells #[.int .i64 3, .int .i64 7] 52 (0, 0))
  have HR := Lib.hid hr; clear hr
  go_enter Try.func25, Try.ntmps25
  go_wp2_with fail
  refine (new_bw 1000 0 hg w13_n0).mono ?_
  rintro e w1 ⟨rfl, hb, hbl⟩
  rw [w13_n1, World.size_alloc] at hb
  obtain ⟨q0, q1, h⟩ := WR.hold (K := w.heap.size) (x := 3) (y := 7) ⟨hb, at_old hbl (by simp) HR.out, by simp⟩
  clear hb hbl hg HR
  go_wp2_with fail
  refine (take_wr _ _ w13_t0 w13_t1 h).mono ?_
  rintro e w' ⟨rfl, q0, q1, h⟩
  go_wp2_with fail
  refine (fill_wr _ _ _ _ w13_f0 w13_f1 h).mono ?_
  rintro e w' ⟨rfl, q0, q1, h⟩
  go_wp2_with fail
  refine (tokens_wr h).mono ?_
  rintro e w' ⟨rfl, rfl⟩
  go_wp2_with fail
  refine (rest_wr h).mono ?_
  rintro e w' ⟨rfl, rfl⟩
  go_wp2_with fail
  refine (when_wr _ _ _ _ w13_g0 h).mono ?_
  rintro e w' ⟨rfl, q0, q1, h⟩
  go_wp2_with fail
  refine (when_wr _ _ _ _ w13_g1 h).mono ?_
  rintro e w' ⟨rfl, q0, q1, h⟩
  go_wp2_with fail
  refine (fill_wr _ _ _ _ w13_f2 w13_f3 h).mono ?_
  rintro e w' ⟨rfl, q0, q1, h⟩
  go_wp2_with fail
  refine (tokens_wr h).mono ?_
  rintro e w' ⟨rfl, rfl⟩
  go_wp2_with fail
  refine (rest_wr h).mono ?_
  rintro e w' ⟨rfl, rfl⟩
  go_wp2_with fail
  refine (fill_wr _ _ _ _ w13_f4 w13_f5 h).mono ?_
  rintro e w' ⟨rfl, q0, q1, h⟩
  go_wp2_with fail
  refine (fill_wr _ _ _ _ w13_f6 w13_f7 h).mono ?_
  rintro e w' ⟨rfl, q0, q1, h⟩
  go_wp2_with fail
  refine (tokens_wr h).mono ?_
  rintro e w' ⟨rfl, rfl⟩
  go_wp2_with fail
  refine (take_wr _ _ w13_t2 w13_t3 h).mono ?_
  rintro e w' ⟨rfl, q0, q1, h⟩
  go_wp2_with fail
  refine (when_wr _ _ _ _ w13_g2 h).mono ?_
  rintro e w' ⟨rfl, q0, q1, h⟩
  go_wp2_with fail
  refine (when_wr _ _ _ _ w13_g3 h).mono ?_
  rintro e w' ⟨rfl, q0, q1, h⟩
  go_wp2_with fail
  refine (time_wr h).mono ?_
  rintro e w' ⟨rfl, rfl⟩
  go_wp2_with fail
  go_ret
  exact ⟨rfl, h.bw.gr⟩
end Go.Proofs.Ytnmekhgilekofaa
