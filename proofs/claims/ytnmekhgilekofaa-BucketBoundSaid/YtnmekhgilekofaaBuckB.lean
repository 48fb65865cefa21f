/- Bucket.pass and Bucket.Fill. -/
import Derived.Test.YtnmekhgilekofaaBuck
namespace Go.Proofs.Ytnmekhgilekofaa
open Go.RowKit Sat

/-- A bucket, a rate beside it, and that else memory has only grown. -/
structure FW (a : Nat) (s : BS) (K : Nat) (x y : Int) (w0 w : World) : Prop where
  bk : Bk a s w
  rt : Rt K x y w
  ch : Ch a w0 w
theorem FW.drew {a : Nat} {s : BS} {K : Nat} {x y : Int} {w0 w : World} (h : FW a s K x y w0 w) : FW a s K x y w0 w.drew := ⟨h.bk, h.rt, h.ch.drew⟩
theorem FW.step {a : Nat} {s : BS} {K : Nat} {x y : Int} {w0 w w' : World} (h : FW a s K x y w0 w) (g : Below w.heap.size w w') : FW a s K x y w0 w' := ⟨h.bk.below g, at_old g (lt_of_block h.rt) h.rt, h.ch.step g⟩
theorem FW.hold {a : Nat} {s : BS} {K : Nat} {x y : Int} {w0 w : World} (h : FW a s K x y w0 w) : w.cell? ⟨a, 3, none⟩ = some (.int .i64 s.t) ∧ w.cell? ⟨K, 0, none⟩ = some (.int .i64 x) ∧ w.cell? ⟨K, 1, none⟩ = some (.int .i64 y) ∧ FW a s K x y w0 w := ⟨cellOf h.bk rfl, cellOf h.rt rfl, cellOf h.rt rfl, h⟩
theorem mulRest_fw (p q o : Int) {a : Nat} {s : BS} {K : Nat} {x y : Int} {w0 w : World} (h : FW a s K x y w0 w) :
    Calls Try.prog 55 #[.int .i64 p, .int .i64 q, .int .i64 o] w fun e w' => e = .returned (.tuple #[.int .i64 (mulDiv p q o), .int .i64 (mulLeft p q o)]) ∧ FW a s K x y w0 w' :=
  (mulRest_any p q o w).mono fun _ _ ⟨he, hb⟩ => ⟨he, h.step hb⟩

set_option maxRecDepth 100000 in
set_option maxHeartbeats 1600000 in
theorem pass_any (a : Nat) (b n r t0 t x y : Int) (w : World) (h : Bk a ⟨b, n, r, t0, x, y⟩ w) (t1 : 0 ≤ t0) (t2 : t0 ≤ t) (t3 : t ≤ 9007199254740991) (r0 : 0 ≤ r) (r1 : r ≤ 9007199254740991) (y0 : 1 ≤ y) (y1 : y ≤ 9007199254740991) :
    Calls Try.prog 76 #[.pointer (some ⟨a, 0, none⟩), .int .i64 t, .agg #[.int .i64 x, .int .i64 y]] w fun e w' => e = .returned (.tuple #[]) ∧ Bk a (BS.pass ⟨b, n, r, t0, x, y⟩ t x y) w' ∧ Ch a w w' := by
  have es : BS.sum ⟨b, n, r, t0, x, y⟩ t x y = mulLeft (t - t0) x y + r := by unfold BS.sum BS.keep; rw [if_pos ⟨rfl, rfl⟩]
  have l0 := mulLeft_lo (t - t0) x y; have l1 := mulLeft_hi (t - t0) x y
  have c0 : w.cell? ⟨a, 0, none⟩ = some (.int .i64 b) := cellOf h rfl
  have c1 : w.cell? ⟨a, 1, none⟩ = some (.int .i64 n) := cellOf h rfl
  have c2 : w.cell? ⟨a, 2, none⟩ = some (.int .i64 r) := cellOf h rfl
  have c3 : w.cell? ⟨a, 3, none⟩ = some (.int .i64 t0) := cellOf h rfl
  have c4 : w.cell? ⟨a, 4, none⟩ = some (.int .i64 x) := cellOf h rfl
  have c5 : w.cell? ⟨a, 5, none⟩ = some (.int .i64 y) := cellOf h rfl
  have f0 : w.frozen? ⟨a, 0, none⟩ = false := freeOf h
  have f1 : w.frozen? ⟨a, 1, none⟩ = false := freeOf h
  have f2 : w.frozen? ⟨a, 2, none⟩ = false := freeOf h
  have f3 : w.frozen? ⟨a, 3, none⟩ = false := freeOf h
  have f4 : w.frozen? ⟨a, 4, none⟩ = false := freeOf h
  have f5 : w.frozen? ⟨a, 5, none⟩ = false := freeOf h
  have hlt : a < w.heap.size := lt_of_block h
  have H := Lib.hid h; clear h
  by_cases hf : y ≤ mulLeft (t - t0) x y + r
  · have e : BS.pass ⟨b, n, r, t0, x, y⟩ t x y = ⟨b, add n (add (mulDiv (t - t0) x y) 1), mulLeft (t - t0) x y + r - y, t, x, y⟩ := by
      unfold BS.pass BS.more BS.part; rw [es, if_pos hf, if_pos hf]
    rw [e]; clear e es
    go_enter Try.func76, Try.ntmps76
    go_wp2_with fail
    obtain ⟨d0, d1, d2, d3⟩ := FW.hold (a := a) (s := ⟨b, n, r, t0, x, y⟩) (K := w.heap.size) (x := x) (y := y) (w0 := w) (w := w.alloc (.cells #[.int .i64 x, .int .i64 y] 52 (0, 0))) ⟨old_at _ H.out, new_at _ _, (Ch.refl a w).alloc _⟩
    go_region_held3 (fun w' => w'.cell? ⟨a, 3, none⟩ = some (.int .i64 t0) ∧ w'.cell? ⟨w.heap.size, 0, none⟩ = some (.int .i64 x) ∧ w'.cell? ⟨w.heap.size, 1, none⟩ = some (.int .i64 y) ∧ FW a ⟨b, n, r, t0, x, y⟩ w.heap.size x y w w') (first | exact ⟨by assumption, by assumption, by assumption, by assumption⟩ | exact FW.hold (s := ⟨b, n, r, t0, x, y⟩) (by first | assumption | exact FW.drew (by assumption))) (first | (go_at_call 55; refine (mulRest_fw _ _ _ (by first | assumption | exact FW.drew (by assumption))).mono ?_; rintro e wB ⟨rfl, hB⟩))
    have HB := Lib.hid (show FW a ⟨b, n, r, t0, x, y⟩ w.heap.size x y w wB from by assumption)
    have e1 : wB.cell? ⟨a, 1, none⟩ = some (.int .i64 n) := cellOf HB.out.bk rfl
    have e2 : wB.cell? ⟨a, 2, none⟩ = some (.int .i64 r) := cellOf HB.out.bk rfl
    have e3 : wB.frozen? ⟨a, 1, none⟩ = false := freeOf HB.out.bk
    have e4 : wB.frozen? ⟨a, 2, none⟩ = false := freeOf HB.out.bk
    have e5 : wB.frozen? ⟨a, 3, none⟩ = false := freeOf HB.out.bk
    have e6 : wB.cell? ⟨w.heap.size, 1, none⟩ = some (.int .i64 y) := cellOf HB.out.rt rfl
    have e7 : a < wB.heap.size := lt_of_block HB.out.bk
    clear d0 d1 d2 d3 c0 c1 c2 c3 c4 c5 f0 f1 f2 f3 f4 f5
    go_wp2_with fail
    go_quiet ((go_at_call 45; exact Calls.quiet_of_same ((add_any _ _ _).mono fun _ _ ⟨x, y⟩ => ⟨x, y.symm⟩)))
    go_wp2_with (first | (go_at_call 45; refine (add_any _ _ _).mono ?_; rintro e w' ⟨rfl, rfl⟩))
    go_end0
    refine ⟨rfl, ?_, ?_⟩
    · show (World.heap _)[a]? = _
      apply at_eq
      · (repeat (first | exact HB.out.bk | apply set_at | apply drewN_at | apply drew_at | apply old_at))
      · rfl
    · skip
      (repeat (first | exact HB.out.ch | apply Ch.setc | apply Ch.alloc | apply Ch.drewN | apply Ch.drew))
  · have e : BS.pass ⟨b, n, r, t0, x, y⟩ t x y = ⟨b, add n (mulDiv (t - t0) x y), mulLeft (t - t0) x y + r, t, x, y⟩ := by
      unfold BS.pass BS.more BS.part; rw [es, if_neg hf, if_neg hf]
    rw [e]; clear e es
    go_enter Try.func76, Try.ntmps76
    go_wp2_with fail
    obtain ⟨d0, d1, d2, d3⟩ := FW.hold (a := a) (s := ⟨b, n, r, t0, x, y⟩) (K := w.heap.size) (x := x) (y := y) (w0 := w) (w := w.alloc (.cells #[.int .i64 x, .int .i64 y] 52 (0, 0))) ⟨old_at _ H.out, new_at _ _, (Ch.refl a w).alloc _⟩
    go_region_held3 (fun w' => w'.cell? ⟨a, 3, none⟩ = some (.int .i64 t0) ∧ w'.cell? ⟨w.heap.size, 0, none⟩ = some (.int .i64 x) ∧ w'.cell? ⟨w.heap.size, 1, none⟩ = some (.int .i64 y) ∧ FW a ⟨b, n, r, t0, x, y⟩ w.heap.size x y w w') (first | exact ⟨by assumption, by assumption, by assumption, by assumption⟩ | exact FW.hold (s := ⟨b, n, r, t0, x, y⟩) (by first | assumption | exact FW.drew (by assumption))) (first | (go_at_call 55; refine (mulRest_fw _ _ _ (by first | assumption | exact FW.drew (by assumption))).mono ?_; rintro e wB ⟨rfl, hB⟩))
    have HB := Lib.hid (show FW a ⟨b, n, r, t0, x, y⟩ w.heap.size x y w wB from by assumption)
    have e1 : wB.cell? ⟨a, 1, none⟩ = some (.int .i64 n) := cellOf HB.out.bk rfl
    have e2 : wB.cell? ⟨a, 2, none⟩ = some (.int .i64 r) := cellOf HB.out.bk rfl
    have e3 : wB.frozen? ⟨a, 1, none⟩ = false := freeOf HB.out.bk
    have e4 : wB.frozen? ⟨a, 2, none⟩ = false := freeOf HB.out.bk
    have e5 : wB.frozen? ⟨a, 3, none⟩ = false := freeOf HB.out.bk
    have e6 : wB.cell? ⟨w.heap.size, 1, none⟩ = some (.int .i64 y) := cellOf HB.out.rt rfl
    have e7 : a < wB.heap.size := lt_of_block HB.out.bk
    clear d0 d1 d2 d3 c0 c1 c2 c3 c4 c5 f0 f1 f2 f3 f4 f5
    go_wp2_with (first | (go_at_call 45; refine (add_any _ _ _).mono ?_; rintro e w' ⟨rfl, rfl⟩))
    go_end0
    refine ⟨rfl, ?_, ?_⟩
    · show (World.heap _)[a]? = _
      apply at_eq
      · (repeat (first | exact HB.out.bk | apply set_at | apply drewN_at | apply drew_at | apply old_at))
      · rfl
    · skip
      (repeat (first | exact HB.out.ch | apply Ch.setc | apply Ch.alloc | apply Ch.drewN | apply Ch.drew))

end Go.Proofs.Ytnmekhgilekofaa
