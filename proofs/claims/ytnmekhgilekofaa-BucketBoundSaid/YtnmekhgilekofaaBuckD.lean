/- Bucket.When. -/
import Derived.Test.YtnmekhgilekofaaBuckC
import Derived.Test.YtnmekhgilekofaaDivAny
import Derived.Test.YtnmekhgilekofaaParts
import Derived.Shelf.Spec.BitsCarry
namespace Go.Proofs.Ytnmekhgilekofaa
open Go.RowKit Sat

theorem quiet_more {P : Program} {f : FuncId} {args : Array Value} {w : World} {n k : Nat} {v : Value}
    (h : Calls P f args (w.drewN (n + k)) fun e w' => e = .returned v ∧ w' = w.drewN (n + k)) : Calls P f args (w.drewN (n + k)) fun e w'' => e = .returned v ∧ ∃ m, w'' = w.drewN (n + m) :=
  h.mono fun _ _ ⟨he, hm⟩ => ⟨he, k, hm⟩
theorem wrap_u64 (n : Int) (h0 : 0 ≤ n) (h1 : n < 18446744073709551616) : IntKind.u64.wrap n = n := by
  simp [IntKind.wrap, IntKind.bits, IntKind.signed]; omega
theorem wrap_i64 (n : Int) (h0 : 0 ≤ n) (h1 : n < 9223372036854775808) : IntKind.i64.wrap n = n := by
  simp [IntKind.wrap, IntKind.bits, IntKind.signed]; omega
theorem sub64_run (x y : Int) (x0 : 0 ≤ x) (x1 : x < 18446744073709551616) (y0 : 0 ≤ y) (y1 : y < 18446744073709551616) :
    ∃ l b : Int, l = x - y + b * 18446744073709551616 ∧ 0 ≤ l ∧ l < 18446744073709551616 ∧ (b = 0 ∨ b = 1) ∧ (b = 1 → x < y) ∧ ∀ w : World, (callFunc 85 #[.int .u64 x, .int .u64 y, .int .u64 0]).run Try.prog w = .ok (.value (.tuple #[.int .u64 l, .int .u64 b])) w := by
  obtain ⟨n, rfl⟩ := Int.eq_ofNat_of_zero_le x0
  obtain ⟨m, rfl⟩ := Int.eq_ofNat_of_zero_le y0
  refine ⟨(((n + 18446744073709551616 - m - 0) % 18446744073709551616 : Nat) : Int), ((if n < m + 0 then 1 else 0 : Nat) : Int), ?_, ?_, ?_, ?_, ?_, fun w => ?_⟩
  · split <;> omega
  · omega
  · omega
  · split <;> omega
  · split <;> omega
  · rw [run_callFunc_extern Try.func85 (by kernel_rfl) (by kernel_rfl) (by kernel_rfl) (e := sub64Entry) (by kernel_rfl)]
    exact congrArg (fun r => Result.andThen r _) (run_sub64 (P := Try.prog) n m 0 (by omega) w)
theorem add64_run (x y : Int) (x0 : 0 ≤ x) (x1 : x < 18446744073709551616) (y0 : 0 ≤ y) (y1 : y < 18446744073709551616) :
    ∃ l b : Int, l = x + y - b * 18446744073709551616 ∧ 0 ≤ l ∧ l < 18446744073709551616 ∧ (b = 0 ∨ b = 1) ∧ ∀ w : World, (callFunc 86 #[.int .u64 x, .int .u64 y, .int .u64 0]).run Try.prog w = .ok (.value (.tuple #[.int .u64 l, .int .u64 b])) w := by
  obtain ⟨n, rfl⟩ := Int.eq_ofNat_of_zero_le x0
  obtain ⟨m, rfl⟩ := Int.eq_ofNat_of_zero_le y0
  refine ⟨(((n + m + 0) % 18446744073709551616 : Nat) : Int), (((n + m + 0) / 18446744073709551616 : Nat) : Int), ?_, ?_, ?_, ?_, fun w => ?_⟩
  · omega
  · omega
  · omega
  · omega
  · rw [run_callFunc_extern Try.func86 (by kernel_rfl) (by kernel_rfl) (by kernel_rfl) (e := add64Entry) (by kernel_rfl), run_add64 n m 0 (by omega) (by omega) (by omega) (by omega)]
    simp only [Result.andThen]
    congr 5 <;> omega

set_option maxRecDepth 100000 in
set_option maxHeartbeats 1600000 in
theorem bkWhen_quick (a : Nat) (s : BS) (k x y : Int) (w : World) (h : Bk a s w) (hs : s.Ok) (hq : k < 0 ∨ s.b < k ∨ may x y = false ∨ k ≤ s.n ∨ x = 0) :
    Calls Try.prog 36 #[.pointer (some ⟨a, 0, none⟩), .int .i64 k, .agg #[.int .i64 x, .int .i64 y]] w fun e w' => e = .returned (.int .i64 (s.when k x y)) ∧ Bk a s w' ∧ Ch a w w' := by
  by_cases h1 : k < 0
  · rw [BS.when_neg h1]; clear hq
    obtain ⟨b, n, r, t0, x0, y0⟩ := s
    obtain ⟨b0, b1, n0, n1, s0, s1, r0, r1, r2, x1, x2, y1, y2⟩ := hs
    dsimp only at b0 b1 n0 n1 s0 s1 r0 r1 r2 x1 x2 y1 y2
    have c0 : w.cell? ⟨a, 0, none⟩ = some (.int .i64 b) := cellOf h rfl
    have c1 : w.cell? ⟨a, 1, none⟩ = some (.int .i64 n) := cellOf h rfl
    have c2 : w.cell? ⟨a, 2, none⟩ = some (.int .i64 r) := cellOf h rfl
    have c3 : w.cell? ⟨a, 3, none⟩ = some (.int .i64 t0) := cellOf h rfl
    have c4 : w.cell? ⟨a, 4, none⟩ = some (.int .i64 x0) := cellOf h rfl
    have c5 : w.cell? ⟨a, 5, none⟩ = some (.int .i64 y0) := cellOf h rfl
    have f0 : w.frozen? ⟨a, 0, none⟩ = false := freeOf h
    have f1 : w.frozen? ⟨a, 1, none⟩ = false := freeOf h
    have f2 : w.frozen? ⟨a, 2, none⟩ = false := freeOf h
    have f3 : w.frozen? ⟨a, 3, none⟩ = false := freeOf h
    have f4 : w.frozen? ⟨a, 4, none⟩ = false := freeOf h
    have f5 : w.frozen? ⟨a, 5, none⟩ = false := freeOf h
    have hlt : a < w.heap.size := lt_of_block h
    have H := Lib.hid h; clear h
    go_enter Try.func36, Try.ntmps36
    go_wp2_with
      (first
        |
          (go_at_call 74; refine (may_any _ _ _).mono ?_; rintro e wB ⟨rfl, hB⟩; have HW := Lib.hid (FW.step (a := a) (s := ⟨b, n, r, t0, x0, y0⟩) (K := w.heap.size) (x := x) (y := y) (w0 := w) ⟨old_at _ H.out, new_at _ _, (Ch.refl a w).alloc _⟩ hB); have cB0 : wB.cell? ⟨a, 0, none⟩ = some (.int .i64 b) := cellOf HW.out.bk rfl; have cB1 : wB.cell? ⟨a, 1, none⟩ = some (.int .i64 n) := cellOf HW.out.bk rfl; have cB2 : wB.cell? ⟨a, 2, none⟩ = some (.int .i64 r) := cellOf HW.out.bk rfl; have cB3 : wB.cell? ⟨a, 3, none⟩ = some (.int .i64 t0) := cellOf HW.out.bk rfl; have cB4 : wB.cell? ⟨a, 4, none⟩ = some (.int .i64 x0) := cellOf HW.out.bk rfl; have cB5 : wB.cell? ⟨a, 5, none⟩ = some (.int .i64 y0) := cellOf HW.out.bk rfl; have cR0 : wB.cell? ⟨w.heap.size, 0, none⟩ = some (.int .i64 x) := cellOf HW.out.rt rfl; have cR1 : wB.cell? ⟨w.heap.size, 1, none⟩ = some (.int .i64 y) := cellOf HW.out.rt rfl)
        |
          (go_at_call 73; refine (bkNone_any a ⟨b, n, r, t0, x0, y0⟩ _ (by first | exact H.out | exact old_at _ H.out) b0).mono ?_; rintro e w' ⟨rfl, rfl⟩)
        )
    go_ret
    refine ⟨rfl, ?_, ?_⟩
    · first | exact HW.out.bk | exact old_at _ H.out
    · first | exact HW.out.ch | exact (Ch.refl a w).alloc _
  · by_cases h2 : s.b < k
    · rw [BS.when_big h2]; clear hq
      obtain ⟨b, n, r, t0, x0, y0⟩ := s
      obtain ⟨b0, b1, n0, n1, s0, s1, r0, r1, r2, x1, x2, y1, y2⟩ := hs
      dsimp only at b0 b1 n0 n1 s0 s1 r0 r1 r2 x1 x2 y1 y2
      have c0 : w.cell? ⟨a, 0, none⟩ = some (.int .i64 b) := cellOf h rfl
      have c1 : w.cell? ⟨a, 1, none⟩ = some (.int .i64 n) := cellOf h rfl
      have c2 : w.cell? ⟨a, 2, none⟩ = some (.int .i64 r) := cellOf h rfl
      have c3 : w.cell? ⟨a, 3, none⟩ = some (.int .i64 t0) := cellOf h rfl
      have c4 : w.cell? ⟨a, 4, none⟩ = some (.int .i64 x0) := cellOf h rfl
      have c5 : w.cell? ⟨a, 5, none⟩ = some (.int .i64 y0) := cellOf h rfl
      have f0 : w.frozen? ⟨a, 0, none⟩ = false := freeOf h
      have f1 : w.frozen? ⟨a, 1, none⟩ = false := freeOf h
      have f2 : w.frozen? ⟨a, 2, none⟩ = false := freeOf h
      have f3 : w.frozen? ⟨a, 3, none⟩ = false := freeOf h
      have f4 : w.frozen? ⟨a, 4, none⟩ = false := freeOf h
      have f5 : w.frozen? ⟨a, 5, none⟩ = false := freeOf h
      have hlt : a < w.heap.size := lt_of_block h
      have H := Lib.hid h; clear h
      dsimp only at h2
      go_enter Try.func36, Try.ntmps36
      go_wp2_with
        (first
          |
            (go_at_call 74; refine (may_any _ _ _).mono ?_; rintro e wB ⟨rfl, hB⟩; have HW := Lib.hid (FW.step (a := a) (s := ⟨b, n, r, t0, x0, y0⟩) (K := w.heap.size) (x := x) (y := y) (w0 := w) ⟨old_at _ H.out, new_at _ _, (Ch.refl a w).alloc _⟩ hB); have cB0 : wB.cell? ⟨a, 0, none⟩ = some (.int .i64 b) := cellOf HW.out.bk rfl; have cB1 : wB.cell? ⟨a, 1, none⟩ = some (.int .i64 n) := cellOf HW.out.bk rfl; have cB2 : wB.cell? ⟨a, 2, none⟩ = some (.int .i64 r) := cellOf HW.out.bk rfl; have cB3 : wB.cell? ⟨a, 3, none⟩ = some (.int .i64 t0) := cellOf HW.out.bk rfl; have cB4 : wB.cell? ⟨a, 4, none⟩ = some (.int .i64 x0) := cellOf HW.out.bk rfl; have cB5 : wB.cell? ⟨a, 5, none⟩ = some (.int .i64 y0) := cellOf HW.out.bk rfl; have cR0 : wB.cell? ⟨w.heap.size, 0, none⟩ = some (.int .i64 x) := cellOf HW.out.rt rfl; have cR1 : wB.cell? ⟨w.heap.size, 1, none⟩ = some (.int .i64 y) := cellOf HW.out.rt rfl)
          |
            (go_at_call 73; refine (bkNone_any a ⟨b, n, r, t0, x0, y0⟩ _ (by first | exact H.out | exact old_at _ H.out) b0).mono ?_; rintro e w' ⟨rfl, rfl⟩)
          )
      go_ret
      refine ⟨rfl, ?_, ?_⟩
      · first | exact HW.out.bk | exact old_at _ H.out
      · first | exact HW.out.ch | exact (Ch.refl a w).alloc _
    · rcases h3 : may x y with _ | _
      · rw [BS.when_rate h3]; clear hq
        obtain ⟨b, n, r, t0, x0, y0⟩ := s
        obtain ⟨b0, b1, n0, n1, s0, s1, r0, r1, r2, x1, x2, y1, y2⟩ := hs
        dsimp only at b0 b1 n0 n1 s0 s1 r0 r1 r2 x1 x2 y1 y2
        have c0 : w.cell? ⟨a, 0, none⟩ = some (.int .i64 b) := cellOf h rfl
        have c1 : w.cell? ⟨a, 1, none⟩ = some (.int .i64 n) := cellOf h rfl
        have c2 : w.cell? ⟨a, 2, none⟩ = some (.int .i64 r) := cellOf h rfl
        have c3 : w.cell? ⟨a, 3, none⟩ = some (.int .i64 t0) := cellOf h rfl
        have c4 : w.cell? ⟨a, 4, none⟩ = some (.int .i64 x0) := cellOf h rfl
        have c5 : w.cell? ⟨a, 5, none⟩ = some (.int .i64 y0) := cellOf h rfl
        have f0 : w.frozen? ⟨a, 0, none⟩ = false := freeOf h
        have f1 : w.frozen? ⟨a, 1, none⟩ = false := freeOf h
        have f2 : w.frozen? ⟨a, 2, none⟩ = false := freeOf h
        have f3 : w.frozen? ⟨a, 3, none⟩ = false := freeOf h
        have f4 : w.frozen? ⟨a, 4, none⟩ = false := freeOf h
        have f5 : w.frozen? ⟨a, 5, none⟩ = false := freeOf h
        have hlt : a < w.heap.size := lt_of_block h
        have H := Lib.hid h; clear h
        dsimp only at h2
        go_enter Try.func36, Try.ntmps36
        go_wp2_with
          (first
            |
              (go_at_call 74; refine (may_any _ _ _).mono ?_; rintro e wB ⟨rfl, hB⟩; have HW := Lib.hid (FW.step (a := a) (s := ⟨b, n, r, t0, x0, y0⟩) (K := w.heap.size) (x := x) (y := y) (w0 := w) ⟨old_at _ H.out, new_at _ _, (Ch.refl a w).alloc _⟩ hB); have cB0 : wB.cell? ⟨a, 0, none⟩ = some (.int .i64 b) := cellOf HW.out.bk rfl; have cB1 : wB.cell? ⟨a, 1, none⟩ = some (.int .i64 n) := cellOf HW.out.bk rfl; have cB2 : wB.cell? ⟨a, 2, none⟩ = some (.int .i64 r) := cellOf HW.out.bk rfl; have cB3 : wB.cell? ⟨a, 3, none⟩ = some (.int .i64 t0) := cellOf HW.out.bk rfl; have cB4 : wB.cell? ⟨a, 4, none⟩ = some (.int .i64 x0) := cellOf HW.out.bk rfl; have cB5 : wB.cell? ⟨a, 5, none⟩ = some (.int .i64 y0) := cellOf HW.out.bk rfl; have cR0 : wB.cell? ⟨w.heap.size, 0, none⟩ = some (.int .i64 x) := cellOf HW.out.rt rfl; have cR1 : wB.cell? ⟨w.heap.size, 1, none⟩ = some (.int .i64 y) := cellOf HW.out.rt rfl)
            |
              (go_at_call 73; refine (bkNone_any a ⟨b, n, r, t0, x0, y0⟩ _ (by first | exact H.out | exact old_at _ H.out) b0).mono ?_; rintro e w' ⟨rfl, rfl⟩)
            )
        go_ret
        refine ⟨rfl, ?_, ?_⟩
        · first | exact HW.out.bk | exact old_at _ H.out
        · first | exact HW.out.ch | exact (Ch.refl a w).alloc _
      · by_cases h4 : k ≤ s.n
        · rw [BS.when_now (by omega) (by omega) h3 h4]; clear hq
          obtain ⟨b, n, r, t0, x0, y0⟩ := s
          obtain ⟨b0, b1, n0, n1, s0, s1, r0, r1, r2, x1, x2, y1, y2⟩ := hs
          dsimp only at b0 b1 n0 n1 s0 s1 r0 r1 r2 x1 x2 y1 y2
          have c0 : w.cell? ⟨a, 0, none⟩ = some (.int .i64 b) := cellOf h rfl
          have c1 : w.cell? ⟨a, 1, none⟩ = some (.int .i64 n) := cellOf h rfl
          have c2 : w.cell? ⟨a, 2, none⟩ = some (.int .i64 r) := cellOf h rfl
          have c3 : w.cell? ⟨a, 3, none⟩ = some (.int .i64 t0) := cellOf h rfl
          have c4 : w.cell? ⟨a, 4, none⟩ = some (.int .i64 x0) := cellOf h rfl
          have c5 : w.cell? ⟨a, 5, none⟩ = some (.int .i64 y0) := cellOf h rfl
          have f0 : w.frozen? ⟨a, 0, none⟩ = false := freeOf h
          have f1 : w.frozen? ⟨a, 1, none⟩ = false := freeOf h
          have f2 : w.frozen? ⟨a, 2, none⟩ = false := freeOf h
          have f3 : w.frozen? ⟨a, 3, none⟩ = false := freeOf h
          have f4 : w.frozen? ⟨a, 4, none⟩ = false := freeOf h
          have f5 : w.frozen? ⟨a, 5, none⟩ = false := freeOf h
          have hlt : a < w.heap.size := lt_of_block h
          have H := Lib.hid h; clear h
          dsimp only at h2 h4 ⊢
          go_enter Try.func36, Try.ntmps36
          go_wp2_with
            (first
              |
                (go_at_call 74; refine (may_any _ _ _).mono ?_; rintro e wB ⟨rfl, hB⟩; have HW := Lib.hid (FW.step (a := a) (s := ⟨b, n, r, t0, x0, y0⟩) (K := w.heap.size) (x := x) (y := y) (w0 := w) ⟨old_at _ H.out, new_at _ _, (Ch.refl a w).alloc _⟩ hB); have cB0 : wB.cell? ⟨a, 0, none⟩ = some (.int .i64 b) := cellOf HW.out.bk rfl; have cB1 : wB.cell? ⟨a, 1, none⟩ = some (.int .i64 n) := cellOf HW.out.bk rfl; have cB2 : wB.cell? ⟨a, 2, none⟩ = some (.int .i64 r) := cellOf HW.out.bk rfl; have cB3 : wB.cell? ⟨a, 3, none⟩ = some (.int .i64 t0) := cellOf HW.out.bk rfl; have cB4 : wB.cell? ⟨a, 4, none⟩ = some (.int .i64 x0) := cellOf HW.out.bk rfl; have cB5 : wB.cell? ⟨a, 5, none⟩ = some (.int .i64 y0) := cellOf HW.out.bk rfl; have cR0 : wB.cell? ⟨w.heap.size, 0, none⟩ = some (.int .i64 x) := cellOf HW.out.rt rfl; have cR1 : wB.cell? ⟨w.heap.size, 1, none⟩ = some (.int .i64 y) := cellOf HW.out.rt rfl)
              |
                (go_at_call 73; refine (bkNone_any a ⟨b, n, r, t0, x0, y0⟩ _ (by first | exact H.out | exact old_at _ H.out) b0).mono ?_; rintro e w' ⟨rfl, rfl⟩)
              )
          go_ret
          refine ⟨rfl, ?_, ?_⟩
          · first | exact HW.out.bk | exact old_at _ H.out
          · first | exact HW.out.ch | exact (Ch.refl a w).alloc _
        · have h5 : x = 0 := by
            rcases hq with g | g | g | g | g
            · exact absurd g h1
            · exact absurd g h2
            · rw [h3] at g; cases g
            · exact absurd g h4
            · exact g
          have e : s.when k x y = -1 := by rw [h5]; exact BS.when_zero (by omega)
          rw [e]; clear hq e
          have h6 : (x == 0) = true := beq_iff_eq.2 h5
          clear h5
          obtain ⟨b, n, r, t0, x0, y0⟩ := s
          obtain ⟨b0, b1, n0, n1, s0, s1, r0, r1, r2, x1, x2, y1, y2⟩ := hs
          dsimp only at b0 b1 n0 n1 s0 s1 r0 r1 r2 x1 x2 y1 y2
          have c0 : w.cell? ⟨a, 0, none⟩ = some (.int .i64 b) := cellOf h rfl
          have c1 : w.cell? ⟨a, 1, none⟩ = some (.int .i64 n) := cellOf h rfl
          have c2 : w.cell? ⟨a, 2, none⟩ = some (.int .i64 r) := cellOf h rfl
          have c3 : w.cell? ⟨a, 3, none⟩ = some (.int .i64 t0) := cellOf h rfl
          have c4 : w.cell? ⟨a, 4, none⟩ = some (.int .i64 x0) := cellOf h rfl
          have c5 : w.cell? ⟨a, 5, none⟩ = some (.int .i64 y0) := cellOf h rfl
          have f0 : w.frozen? ⟨a, 0, none⟩ = false := freeOf h
          have f1 : w.frozen? ⟨a, 1, none⟩ = false := freeOf h
          have f2 : w.frozen? ⟨a, 2, none⟩ = false := freeOf h
          have f3 : w.frozen? ⟨a, 3, none⟩ = false := freeOf h
          have f4 : w.frozen? ⟨a, 4, none⟩ = false := freeOf h
          have f5 : w.frozen? ⟨a, 5, none⟩ = false := freeOf h
          have hlt : a < w.heap.size := lt_of_block h
          have H := Lib.hid h; clear h
          dsimp only at h2 h4
          go_enter Try.func36, Try.ntmps36
          go_wp2_with
            (first
              |
                (go_at_call 74; refine (may_any _ _ _).mono ?_; rintro e wB ⟨rfl, hB⟩; have HW := Lib.hid (FW.step (a := a) (s := ⟨b, n, r, t0, x0, y0⟩) (K := w.heap.size) (x := x) (y := y) (w0 := w) ⟨old_at _ H.out, new_at _ _, (Ch.refl a w).alloc _⟩ hB); have cB0 : wB.cell? ⟨a, 0, none⟩ = some (.int .i64 b) := cellOf HW.out.bk rfl; have cB1 : wB.cell? ⟨a, 1, none⟩ = some (.int .i64 n) := cellOf HW.out.bk rfl; have cB2 : wB.cell? ⟨a, 2, none⟩ = some (.int .i64 r) := cellOf HW.out.bk rfl; have cB3 : wB.cell? ⟨a, 3, none⟩ = some (.int .i64 t0) := cellOf HW.out.bk rfl; have cB4 : wB.cell? ⟨a, 4, none⟩ = some (.int .i64 x0) := cellOf HW.out.bk rfl; have cB5 : wB.cell? ⟨a, 5, none⟩ = some (.int .i64 y0) := cellOf HW.out.bk rfl; have cR0 : wB.cell? ⟨w.heap.size, 0, none⟩ = some (.int .i64 x) := cellOf HW.out.rt rfl; have cR1 : wB.cell? ⟨w.heap.size, 1, none⟩ = some (.int .i64 y) := cellOf HW.out.rt rfl)
              |
                (go_at_call 73; refine (bkNone_any a ⟨b, n, r, t0, x0, y0⟩ _ (by first | exact H.out | exact old_at _ H.out) b0).mono ?_; rintro e w' ⟨rfl, rfl⟩)
              )
          go_ret
          refine ⟨rfl, ?_, ?_⟩
          · first | exact HW.out.bk | exact old_at _ H.out
          · first | exact HW.out.ch | exact (Ch.refl a w).alloc _

end Go.Proofs.Ytnmekhgilekofaa
