/- What the methods of package bucket answer, and what becomes of the bucket in memory: its steps. -/
import Derived.Test.YtnmekhgilekofaaObj
import Derived.Test.YtnmekhgilekofaaBuckMath
import Derived.BigQuiet
import Derived.Deep.QuietTactic
import Derived.Deep.RegionHeld3
import Derived.Laws.EntriesVeiled
import Derived.Laws.StructEq
namespace Go.Proofs.Ytnmekhgilekofaa
open Go.RowKit Sat

/-- Block a is a bucket. -/
def Bk (a : Nat) (s : BS) (w : World) : Prop := w.heap[a]? = some (.cells #[.int .i64 s.b, .int .i64 s.n, .int .i64 s.r, .int .i64 s.t, .int .i64 s.num, .int .i64 s.den] 66 (0, 0))
/-- Block a is a bucket of the reference. -/
def RBk (a : Nat) (s : BS) (w : World) : Prop := w.heap[a]? = some (.cells #[.int .i64 s.b, .int .i64 s.n, .int .i64 s.r, .int .i64 s.t, .int .i64 s.num, .int .i64 s.den] 99 (0, 0))
/-- Block k is a rate. -/
def Rt (k : Nat) (x y : Int) (w : World) : Prop := w.heap[k]? = some (.cells #[.int .i64 x, .int .i64 y] 52 (0, 0))
def RRt (k : Nat) (x y : Int) (w : World) : Prop := w.heap[k]? = some (.cells #[.int .i64 x, .int .i64 y] 83 (0, 0))
theorem at_eq {w : World} {a : Nat} {o o' : Obj} (h : w.heap[a]? = some o) (e : o = o') : w.heap[a]? = some o' := e ▸ h
theorem drew_at {w : World} {a : Nat} {o : Obj} (h : w.heap[a]? = some o) : w.drew.heap[a]? = some o := h
theorem Ch.alloc {a : Nat} {w w' : World} (h : Ch a w w') (o : Obj) : Ch a w (w'.alloc o) := h.trans (Ch.of_below ((Below.refl _ _).alloc (Nat.le_refl _) o))
theorem Ch.setc {a i : Nat} {w w' : World} {v : Value} (h : Ch a w w') : Ch a w (w'.setCell ⟨a, i, none⟩ v) := h.trans (Ch.set _ _ _ _)
theorem Ch.step {a : Nat} {w w' w'' : World} (h : Ch a w w') (g : Below w'.heap.size w' w'') : Ch a w w'' := h.trans (Ch.of_below g)
theorem Bk.below {a : Nat} {s : BS} {w w' : World} (h : Bk a s w) (g : Below w.heap.size w w') : Bk a s w' := at_old g (lt_of_block h) h
theorem RBk.below {a : Nat} {s : BS} {w w' : World} (h : RBk a s w) (g : Below w.heap.size w w') : RBk a s w' := at_old g (lt_of_block h) h


set_option maxHeartbeats 400000 in
theorem bkNone_any (a : Nat) (s : BS) (w : World) (h : Bk a s w) (hb : 1 ≤ s.b) : Calls Try.prog 73 #[.pointer (some ⟨a, 0, none⟩)] w fun e w' => e = .returned (.bool false) ∧ w = w' := by
  obtain ⟨b, n, r, t0, x0, y0⟩ := s
  dsimp only at hb
  have hb' : (b == 0) = false := beq_eq_false_iff_ne.2 (by omega)
  have c0 : w.cell? ⟨a, 0, none⟩ = some (.int .i64 b) := cellOf h rfl
  have c1 : w.cell? ⟨a, 1, none⟩ = some (.int .i64 n) := cellOf h rfl
  have c2 : w.cell? ⟨a, 2, none⟩ = some (.int .i64 r) := cellOf h rfl
  have c3 : w.cell? ⟨a, 3, none⟩ = some (.int .i64 t0) := cellOf h rfl
  have c4 : w.cell? ⟨a, 4, none⟩ = some (.int .i64 x0) := cellOf h rfl
  have c5 : w.cell? ⟨a, 5, none⟩ = some (.int .i64 y0) := cellOf h rfl
  have f0 : w.frozen? ⟨a, 0, none⟩ = false := freeOf h
  have f1 : w.frozen? ⟨a, 1, none⟩ = false := freeOf h
  have f2 : w.frozen? ⟨a, 2, none⟩ = false := freeOf h
  have f3 : w.frozen? ⟨a, 3, none⟩ = false := freeOf h
  have f4 : w.frozen? ⟨a, 4, none⟩ = false := freeOf h
  have f5 : w.frozen? ⟨a, 5, none⟩ = false := freeOf h
  have hlt : a < w.heap.size := lt_of_block h
  have H := Lib.hid h; clear h
  go_enter Try.func73, Try.ntmps73
  go_wp2
  go_ret
  exact ⟨rfl, rfl⟩
set_option maxHeartbeats 400000 in
theorem may_any (x y : Int) (w : World) : Calls Try.prog 74 #[.agg #[.int .i64 x, .int .i64 y]] w fun e w' => e = .returned (.bool (may x y)) ∧ Below w.heap.size w w' := by
  go_enter Try.func74, Try.ntmps74
  go_wp2
  all_goals go_ret
  all_goals exact ⟨ret_bool (by unfold may; first | exact decide_eq_decide.2 (by omega) | exact (decide_eq_true (by omega)).symm | exact (decide_eq_false (by omega)).symm), (Below.refl _ _).alloc (Nat.le_refl _) _⟩
set_option maxHeartbeats 400000 in
theorem rmay_any (x y : Int) (w : World) : Calls Try.prog 97 #[.agg #[.int .i64 x, .int .i64 y]] w fun e w' => e = .returned (.bool (may x y)) ∧ Below w.heap.size w w' := by
  go_enter Try.func97, Try.ntmps97
  go_wp2
  all_goals go_ret
  all_goals exact ⟨ret_bool (by unfold may; first | exact decide_eq_decide.2 (by omega) | exact (decide_eq_true (by omega)).symm | exact (decide_eq_false (by omega)).symm), (Below.refl _ _).alloc (Nat.le_refl _) _⟩

set_option maxHeartbeats 800000 in
theorem turn_any (a : Nat) (s : BS) (t x y : Int) (w : World) (h : Bk a s w) : Calls Try.prog 75 #[.pointer (some ⟨a, 0, none⟩), .int .i64 t, .agg #[.int .i64 x, .int .i64 y]] w fun e w' => e = .returned (.tuple #[]) ∧ Bk a (s.turn x y) w' ∧ Ch a w w' := by
  obtain ⟨b, n, r, t0, x0, y0⟩ := s
  by_cases hx : x = x0
  · by_cases hy : y = y0
    · have e : BS.turn ⟨b, n, r, t0, x0, y0⟩ x y = ⟨b, n, r, t0, x0, y0⟩ := by
        unfold BS.turn BS.keep; rw [if_pos ⟨hx, hy⟩, hx, hy]
      rw [e]; subst hx hy; clear e
      have c0 : w.cell? ⟨a, 0, none⟩ = some (.int .i64 b) := cellOf h rfl
      have c1 : w.cell? ⟨a, 1, none⟩ = some (.int .i64 n) := cellOf h rfl
      have c2 : w.cell? ⟨a, 2, none⟩ = some (.int .i64 r) := cellOf h rfl
      have c3 : w.cell? ⟨a, 3, none⟩ = some (.int .i64 t0) := cellOf h rfl
      have c4 : w.cell? ⟨a, 4, none⟩ = some (.int .i64 x) := cellOf h rfl
      have c5 : w.cell? ⟨a, 5, none⟩ = some (.int .i64 y) := cellOf h rfl
      have f0 : w.frozen? ⟨a, 0, none⟩ = false := freeOf h
      have f1 : w.frozen? ⟨a, 1, none⟩ = false := freeOf h
      have f2 : w.frozen? ⟨a, 2, none⟩ = false := freeOf h
      have f3 : w.frozen? ⟨a, 3, none⟩ = false := freeOf h
      have f4 : w.frozen? ⟨a, 4, none⟩ = false := freeOf h
      have f5 : w.frozen? ⟨a, 5, none⟩ = false := freeOf h
      have hlt : a < w.heap.size := lt_of_block h
      have H := Lib.hid h; clear h
      go_enter Try.func75, Try.ntmps75
      go_wp2_with fail
      go_quiet (fail)
      go_wp2_with fail
      go_end0
      refine ⟨rfl, ?_, ?_⟩
      · show (World.heap _)[a]? = _
        apply at_eq
        · (repeat (first | exact H.out | apply set_at | apply drewN_at | apply drew_at | apply old_at))
        · rfl
      · skip
        (repeat (first | exact Ch.refl _ _ | apply Ch.setc | apply Ch.alloc | apply Ch.drewN | apply Ch.drew))
    · have e : BS.turn ⟨b, n, r, t0, x0, y0⟩ x y = ⟨b, n, 0, t0, x, y⟩ := by
        unfold BS.turn BS.keep; rw [if_neg (by dsimp only; omega)]
      rw [e]; clear e
      have hy' : (y == y0) = false := beq_eq_false_iff_ne.2 hy
      subst hx
      have c0 : w.cell? ⟨a, 0, none⟩ = some (.int .i64 b) := cellOf h rfl
      have c1 : w.cell? ⟨a, 1, none⟩ = some (.int .i64 n) := cellOf h rfl
      have c2 : w.cell? ⟨a, 2, none⟩ = some (.int .i64 r) := cellOf h rfl
      have c3 : w.cell? ⟨a, 3, none⟩ = some (.int .i64 t0) := cellOf h rfl
      have c4 : w.cell? ⟨a, 4, none⟩ = some (.int .i64 x) := cellOf h rfl
      have c5 : w.cell? ⟨a, 5, none⟩ = some (.int .i64 y0) := cellOf h rfl
      have f0 : w.frozen? ⟨a, 0, none⟩ = false := freeOf h
      have f1 : w.frozen? ⟨a, 1, none⟩ = false := freeOf h
      have f2 : w.frozen? ⟨a, 2, none⟩ = false := freeOf h
      have f3 : w.frozen? ⟨a, 3, none⟩ = false := freeOf h
      have f4 : w.frozen? ⟨a, 4, none⟩ = false := freeOf h
      have f5 : w.frozen? ⟨a, 5, none⟩ = false := freeOf h
      have hlt : a < w.heap.size := lt_of_block h
      have H := Lib.hid h; clear h
      go_enter Try.func75, Try.ntmps75
      go_wp2_with fail
      go_quiet (fail)
      go_wp2_with fail
      go_end0
      refine ⟨rfl, ?_, ?_⟩
      · show (World.heap _)[a]? = _
        apply at_eq
        · (repeat (first | exact H.out | apply set_at | apply drewN_at | apply drew_at | apply old_at))
        · rfl
      · skip
        (repeat (first | exact Ch.refl _ _ | apply Ch.setc | apply Ch.alloc | apply Ch.drewN | apply Ch.drew))
  · have e : BS.turn ⟨b, n, r, t0, x0, y0⟩ x y = ⟨b, n, 0, t0, x, y⟩ := by
      unfold BS.turn BS.keep; rw [if_neg (by dsimp only; omega)]
    rw [e]; clear e
    have hx' : (x == x0) = false := beq_eq_false_iff_ne.2 hx
    have c0 : w.cell? ⟨a, 0, none⟩ = some (.int .i64 b) := cellOf h rfl
    have c1 : w.cell? ⟨a, 1, none⟩ = some (.int .i64 n) := cellOf h rfl
    have c2 : w.cell? ⟨a, 2, none⟩ = some (.int .i64 r) := cellOf h rfl
    have c3 : w.cell? ⟨a, 3, none⟩ = some (.int .i64 t0) := cellOf h rfl
    have c4 : w.cell? ⟨a, 4, none⟩ = some (.int .i64 x0) := cellOf h rfl
    have c5 : w.cell? ⟨a, 5, none⟩ = some (.int .i64 y0) := cellOf h rfl
    have f0 : w.frozen? ⟨a, 0, none⟩ = false := freeOf h
    have f1 : w.frozen? ⟨a, 1, none⟩ = false := freeOf h
    have f2 : w.frozen? ⟨a, 2, none⟩ = false := freeOf h
    have f3 : w.frozen? ⟨a, 3, none⟩ = false := freeOf h
    have f4 : w.frozen? ⟨a, 4, none⟩ = false := freeOf h
    have f5 : w.frozen? ⟨a, 5, none⟩ = false := freeOf h
    have hlt : a < w.heap.size := lt_of_block h
    have H := Lib.hid h; clear h
    go_enter Try.func75, Try.ntmps75
    go_wp2_with fail
    go_quiet (fail)
    go_wp2_with fail
    go_end0
    refine ⟨rfl, ?_, ?_⟩
    · show (World.heap _)[a]? = _
      apply at_eq
      · (repeat (first | exact H.out | apply set_at | apply drewN_at | apply drew_at | apply old_at))
      · rfl
    · skip
      (repeat (first | exact Ch.refl _ _ | apply Ch.setc | apply Ch.alloc | apply Ch.drewN | apply Ch.drew))
set_option maxHeartbeats 800000 in
theorem full_any (a : Nat) (s : BS) (t x y : Int) (w : World) (h : Bk a s w) : Calls Try.prog 77 #[.pointer (some ⟨a, 0, none⟩), .int .i64 t, .agg #[.int .i64 x, .int .i64 y]] w fun e w' => e = .returned (.tuple #[]) ∧ Bk a s.full w' ∧ Ch a w w' := by
  obtain ⟨b, n, r, t0, x0, y0⟩ := s
  by_cases hf : b ≤ n
  · have e : BS.full ⟨b, n, r, t0, x0, y0⟩ = ⟨b, b, 0, t0, x0, y0⟩ := if_pos hf
    rw [e]; clear e
    have c0 : w.cell? ⟨a, 0, none⟩ = some (.int .i64 b) := cellOf h rfl
    have c1 : w.cell? ⟨a, 1, none⟩ = some (.int .i64 n) := cellOf h rfl
    have c2 : w.cell? ⟨a, 2, none⟩ = some (.int .i64 r) := cellOf h rfl
    have c3 : w.cell? ⟨a, 3, none⟩ = some (.int .i64 t0) := cellOf h rfl
    have c4 : w.cell? ⟨a, 4, none⟩ = some (.int .i64 x0) := cellOf h rfl
    have c5 : w.cell? ⟨a, 5, none⟩ = some (.int .i64 y0) := cellOf h rfl
    have f0 : w.frozen? ⟨a, 0, none⟩ = false := freeOf h
    have f1 : w.frozen? ⟨a, 1, none⟩ = false := freeOf h
    have f2 : w.frozen? ⟨a, 2, none⟩ = false := freeOf h
    have f3 : w.frozen? ⟨a, 3, none⟩ = false := freeOf h
    have f4 : w.frozen? ⟨a, 4, none⟩ = false := freeOf h
    have f5 : w.frozen? ⟨a, 5, none⟩ = false := freeOf h
    have hlt : a < w.heap.size := lt_of_block h
    have H := Lib.hid h; clear h
    go_enter Try.func77, Try.ntmps77
    go_wp2_with fail
    go_quiet (fail)
    go_wp2_with fail
    go_end0
    refine ⟨rfl, ?_, ?_⟩
    · show (World.heap _)[a]? = _
      apply at_eq
      · (repeat (first | exact H.out | apply set_at | apply drewN_at | apply drew_at | apply old_at))
      · rfl
    · skip
      (repeat (first | exact Ch.refl _ _ | apply Ch.setc | apply Ch.alloc | apply Ch.drewN | apply Ch.drew))
  · have e : BS.full ⟨b, n, r, t0, x0, y0⟩ = ⟨b, n, r, t0, x0, y0⟩ := if_neg hf
    rw [e]; clear e
    have c0 : w.cell? ⟨a, 0, none⟩ = some (.int .i64 b) := cellOf h rfl
    have c1 : w.cell? ⟨a, 1, none⟩ = some (.int .i64 n) := cellOf h rfl
    have c2 : w.cell? ⟨a, 2, none⟩ = some (.int .i64 r) := cellOf h rfl
    have c3 : w.cell? ⟨a, 3, none⟩ = some (.int .i64 t0) := cellOf h rfl
    have c4 : w.cell? ⟨a, 4, none⟩ = some (.int .i64 x0) := cellOf h rfl
    have c5 : w.cell? ⟨a, 5, none⟩ = some (.int .i64 y0) := cellOf h rfl
    have f0 : w.frozen? ⟨a, 0, none⟩ = false := freeOf h
    have f1 : w.frozen? ⟨a, 1, none⟩ = false := freeOf h
    have f2 : w.frozen? ⟨a, 2, none⟩ = false := freeOf h
    have f3 : w.frozen? ⟨a, 3, none⟩ = false := freeOf h
    have f4 : w.frozen? ⟨a, 4, none⟩ = false := freeOf h
    have f5 : w.frozen? ⟨a, 5, none⟩ = false := freeOf h
    have hlt : a < w.heap.size := lt_of_block h
    have H := Lib.hid h; clear h
    go_enter Try.func77, Try.ntmps77
    go_wp2_with fail
    go_quiet (fail)
    go_wp2_with fail
    go_end0
    refine ⟨rfl, ?_, ?_⟩
    · show (World.heap _)[a]? = _
      apply at_eq
      · (repeat (first | exact H.out | apply set_at | apply drewN_at | apply drew_at | apply old_at))
      · rfl
    · skip
      (repeat (first | exact Ch.refl _ _ | apply Ch.setc | apply Ch.alloc | apply Ch.drewN | apply Ch.drew))

end Go.Proofs.Ytnmekhgilekofaa
