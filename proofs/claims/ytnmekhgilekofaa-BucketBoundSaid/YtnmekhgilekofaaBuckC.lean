/- The methods of package bucket: Fill, Take, Tokens, Rest, Time, Copy; New. -/
import Derived.Test.YtnmekhgilekofaaBuckB
namespace Go.Proofs.Ytnmekhgilekofaa
open Go.RowKit Sat

def Fs (L a : Nat) (w : World) : Prop := w.heap[L]? = some (.cells #[.func (Fn.func 75) #[.pointer (some ⟨a, 0, none⟩)] #[], .func (Fn.func 76) #[.pointer (some ⟨a, 0, none⟩)] #[], .func (Fn.func 77) #[.pointer (some ⟨a, 0, none⟩)] #[]] 77 (0, 0))
/-- A bucket, a rate and the three steps. -/
structure FL (a : Nat) (s : BS) (K : Nat) (x y : Int) (L : Nat) (w0 w : World) : Prop where
  fw : FW a s K x y w0 w
  fs : Fs L a w
  nk : K ≠ a
  nl : L ≠ a
theorem FL.to {a : Nat} {s s' : BS} {K : Nat} {x y : Int} {L : Nat} {w0 w w' : World} (h : FL a s K x y L w0 w) (b : Bk a s' w') (c : Ch a w w') : FL a s' K x y L w0 w' :=
  ⟨⟨b, c.at h.nk h.fw.rt, h.fw.ch.trans c⟩, c.at h.nl h.fs, h.nk, h.nl⟩

/-- Behind so many steps. -/
def Sat.BS.after (s : BS) (t x y : Int) : Nat → BS
  | 0 => s
  | 1 => s.turn x y
  | 2 => (s.turn x y).pass t x y
  | _ => s.fill t x y
set_option maxHeartbeats 800000 in
theorem bkTake_any (a : Nat) (s : BS) (k : Int) (w : World) (h : Bk a s w) (hs : s.Ok) : Calls Try.prog 31 #[.pointer (some ⟨a, 0, none⟩), .int .i64 k] w fun e w' => e = .returned (.int .i64 (s.takeE k)) ∧ Bk a (s.taken k) w' ∧ Ch a w w' := by
  by_cases hk : k < 0
  · rw [BS.taken_no (by rw [BS.takeE_neg hk]; decide), BS.takeE_neg hk]
    obtain ⟨b, n, r, t0, x0, y0⟩ := s
    obtain ⟨b0, b1, n0, n1, s0, s1, r0, r1, r2, x1, x2, y1, y2⟩ := hs
    dsimp only at b0 b1 n0 n1 s0 s1 r0 r1 r2 x1 x2 y1 y2
    have c0 : w.cell? ⟨a, 0, none⟩ = some (.int .i64 b) := cellOf h rfl
    have c1 : w.cell? ⟨a, 1, none⟩ = some (.int .i64 n) := cellOf h rfl
    have c2 : w.cell? ⟨a, 2, none⟩ = some (.int .i64 r) := cellOf h rfl
    have c3 : w.cell? ⟨a, 3, none⟩ = some (.int .i64 t0) := cellOf h rfl
    have c4 : w.cell? ⟨a, 4, none⟩ = some (.int .i64 x0) := cellOf h rfl
    have c5 : w.cell? ⟨a, 5, none⟩ = some (.int .i64 y0) := cellOf h rfl
    have f0 : w.frozen? ⟨a, 0, none⟩ = false := freeOf h
    have f1 : w.frozen? ⟨a, 1, none⟩ = false := freeOf h
    have f2 : w.frozen? ⟨a, 2, none⟩ = false := freeOf h
    have f3 : w.frozen? ⟨a, 3, none⟩ = false := freeOf h
    have f4 : w.frozen? ⟨a, 4, none⟩ = false := freeOf h
    have f5 : w.frozen? ⟨a, 5, none⟩ = false := freeOf h
    have hlt : a < w.heap.size := lt_of_block h
    have H := Lib.hid h; clear h
    go_enter Try.func31, Try.ntmps31
    go_wp2_with
      (go_at_call 73; refine (bkNone_any a ⟨b, n, r, t0, x0, y0⟩ _ (by first | exact H.out | exact old_at _ H.out) b0).mono ?_; rintro e w' ⟨rfl, rfl⟩)
    go_ret
    exact ⟨rfl, H.out, Ch.refl _ _⟩
  · by_cases hn : s.n < k
    · rw [BS.taken_no (by rw [BS.takeE_big hn (by omega)]; decide), BS.takeE_big hn (by omega)]
      obtain ⟨b, n, r, t0, x0, y0⟩ := s
      obtain ⟨b0, b1, n0, n1, s0, s1, r0, r1, r2, x1, x2, y1, y2⟩ := hs
      dsimp only at b0 b1 n0 n1 s0 s1 r0 r1 r2 x1 x2 y1 y2
      have c0 : w.cell? ⟨a, 0, none⟩ = some (.int .i64 b) := cellOf h rfl
      have c1 : w.cell? ⟨a, 1, none⟩ = some (.int .i64 n) := cellOf h rfl
      have c2 : w.cell? ⟨a, 2, none⟩ = some (.int .i64 r) := cellOf h rfl
      have c3 : w.cell? ⟨a, 3, none⟩ = some (.int .i64 t0) := cellOf h rfl
      have c4 : w.cell? ⟨a, 4, none⟩ = some (.int .i64 x0) := cellOf h rfl
      have c5 : w.cell? ⟨a, 5, none⟩ = some (.int .i64 y0) := cellOf h rfl
      have f0 : w.frozen? ⟨a, 0, none⟩ = false := freeOf h
      have f1 : w.frozen? ⟨a, 1, none⟩ = false := freeOf h
      have f2 : w.frozen? ⟨a, 2, none⟩ = false := freeOf h
      have f3 : w.frozen? ⟨a, 3, none⟩ = false := freeOf h
      have f4 : w.frozen? ⟨a, 4, none⟩ = false := freeOf h
      have f5 : w.frozen? ⟨a, 5, none⟩ = false := freeOf h
      have hlt : a < w.heap.size := lt_of_block h
      have H := Lib.hid h; clear h
      dsimp only at hn
      go_enter Try.func31, Try.ntmps31
      go_wp2_with
        (go_at_call 73; refine (bkNone_any a ⟨b, n, r, t0, x0, y0⟩ _ (by first | exact H.out | exact old_at _ H.out) b0).mono ?_; rintro e w' ⟨rfl, rfl⟩)
      go_ret
      exact ⟨rfl, H.out, Ch.refl _ _⟩
    · have e := BS.takeE_yes (s := s) (k := k) (by omega) (by omega)
      rw [BS.taken_yes e, e]
      clear e
      obtain ⟨b, n, r, t0, x0, y0⟩ := s
      obtain ⟨b0, b1, n0, n1, s0, s1, r0, r1, r2, x1, x2, y1, y2⟩ := hs
      dsimp only at b0 b1 n0 n1 s0 s1 r0 r1 r2 x1 x2 y1 y2
      have c0 : w.cell? ⟨a, 0, none⟩ = some (.int .i64 b) := cellOf h rfl
      have c1 : w.cell? ⟨a, 1, none⟩ = some (.int .i64 n) := cellOf h rfl
      have c2 : w.cell? ⟨a, 2, none⟩ = some (.int .i64 r) := cellOf h rfl
      have c3 : w.cell? ⟨a, 3, none⟩ = some (.int .i64 t0) := cellOf h rfl
      have c4 : w.cell? ⟨a, 4, none⟩ = some (.int .i64 x0) := cellOf h rfl
      have c5 : w.cell? ⟨a, 5, none⟩ = some (.int .i64 y0) := cellOf h rfl
      have f0 : w.frozen? ⟨a, 0, none⟩ = false := freeOf h
      have f1 : w.frozen? ⟨a, 1, none⟩ = false := freeOf h
      have f2 : w.frozen? ⟨a, 2, none⟩ = false := freeOf h
      have f3 : w.frozen? ⟨a, 3, none⟩ = false := freeOf h
      have f4 : w.frozen? ⟨a, 4, none⟩ = false := freeOf h
      have f5 : w.frozen? ⟨a, 5, none⟩ = false := freeOf h
      have hlt : a < w.heap.size := lt_of_block h
      have H := Lib.hid h; clear h
      dsimp only at hn ⊢
      go_enter Try.func31, Try.ntmps31
      go_wp2_with
        (go_at_call 73; refine (bkNone_any a ⟨b, n, r, t0, x0, y0⟩ _ (by first | exact H.out | exact old_at _ H.out) b0).mono ?_; rintro e w' ⟨rfl, rfl⟩)
      go_ret
      exact ⟨rfl, set_at H.out, Ch.set _ _ _ _⟩
theorem bkTokens_any (a : Nat) (s : BS) (w : World) (h : Bk a s w) (hs : s.Ok) : Calls Try.prog 30 #[.pointer (some ⟨a, 0, none⟩)] w fun e w' => e = .returned (.int .i64 (s.n)) ∧ w = w' := by
  obtain ⟨b, n, r, t0, x0, y0⟩ := s
  obtain ⟨b0, b1, n0, n1, s0, s1, r0, r1, r2, x1, x2, y1, y2⟩ := hs
  dsimp only at b0 b1 n0 n1 s0 s1 r0 r1 r2 x1 x2 y1 y2
  have c0 : w.cell? ⟨a, 0, none⟩ = some (.int .i64 b) := cellOf h rfl
  have c1 : w.cell? ⟨a, 1, none⟩ = some (.int .i64 n) := cellOf h rfl
  have c2 : w.cell? ⟨a, 2, none⟩ = some (.int .i64 r) := cellOf h rfl
  have c3 : w.cell? ⟨a, 3, none⟩ = some (.int .i64 t0) := cellOf h rfl
  have c4 : w.cell? ⟨a, 4, none⟩ = some (.int .i64 x0) := cellOf h rfl
  have c5 : w.cell? ⟨a, 5, none⟩ = some (.int .i64 y0) := cellOf h rfl
  have f0 : w.frozen? ⟨a, 0, none⟩ = false := freeOf h
  have f1 : w.frozen? ⟨a, 1, none⟩ = false := freeOf h
  have f2 : w.frozen? ⟨a, 2, none⟩ = false := freeOf h
  have f3 : w.frozen? ⟨a, 3, none⟩ = false := freeOf h
  have f4 : w.frozen? ⟨a, 4, none⟩ = false := freeOf h
  have f5 : w.frozen? ⟨a, 5, none⟩ = false := freeOf h
  have hlt : a < w.heap.size := lt_of_block h
  have H := Lib.hid h; clear h
  go_enter Try.func30, Try.ntmps30
  go_wp2_with
    (go_at_call 73; refine (bkNone_any a ⟨b, n, r, t0, x0, y0⟩ _ (by first | exact H.out | exact old_at _ H.out) b0).mono ?_; rintro e w' ⟨rfl, rfl⟩)
  go_ret
  exact ⟨rfl, rfl⟩
theorem bkRest_any (a : Nat) (s : BS) (w : World) (h : Bk a s w) (hs : s.Ok) : Calls Try.prog 33 #[.pointer (some ⟨a, 0, none⟩)] w fun e w' => e = .returned (.int .i64 (s.r)) ∧ w = w' := by
  obtain ⟨b, n, r, t0, x0, y0⟩ := s
  obtain ⟨b0, b1, n0, n1, s0, s1, r0, r1, r2, x1, x2, y1, y2⟩ := hs
  dsimp only at b0 b1 n0 n1 s0 s1 r0 r1 r2 x1 x2 y1 y2
  have c0 : w.cell? ⟨a, 0, none⟩ = some (.int .i64 b) := cellOf h rfl
  have c1 : w.cell? ⟨a, 1, none⟩ = some (.int .i64 n) := cellOf h rfl
  have c2 : w.cell? ⟨a, 2, none⟩ = some (.int .i64 r) := cellOf h rfl
  have c3 : w.cell? ⟨a, 3, none⟩ = some (.int .i64 t0) := cellOf h rfl
  have c4 : w.cell? ⟨a, 4, none⟩ = some (.int .i64 x0) := cellOf h rfl
  have c5 : w.cell? ⟨a, 5, none⟩ = some (.int .i64 y0) := cellOf h rfl
  have f0 : w.frozen? ⟨a, 0, none⟩ = false := freeOf h
  have f1 : w.frozen? ⟨a, 1, none⟩ = false := freeOf h
  have f2 : w.frozen? ⟨a, 2, none⟩ = false := freeOf h
  have f3 : w.frozen? ⟨a, 3, none⟩ = false := freeOf h
  have f4 : w.frozen? ⟨a, 4, none⟩ = false := freeOf h
  have f5 : w.frozen? ⟨a, 5, none⟩ = false := freeOf h
  have hlt : a < w.heap.size := lt_of_block h
  have H := Lib.hid h; clear h
  go_enter Try.func33, Try.ntmps33
  go_wp2_with
    (go_at_call 73; refine (bkNone_any a ⟨b, n, r, t0, x0, y0⟩ _ (by first | exact H.out | exact old_at _ H.out) b0).mono ?_; rintro e w' ⟨rfl, rfl⟩)
  go_ret
  exact ⟨rfl, rfl⟩
theorem bkTime_any (a : Nat) (s : BS) (w : World) (h : Bk a s w) (hs : s.Ok) : Calls Try.prog 34 #[.pointer (some ⟨a, 0, none⟩)] w fun e w' => e = .returned (.int .i64 (s.t)) ∧ w = w' := by
  obtain ⟨b, n, r, t0, x0, y0⟩ := s
  obtain ⟨b0, b1, n0, n1, s0, s1, r0, r1, r2, x1, x2, y1, y2⟩ := hs
  dsimp only at b0 b1 n0 n1 s0 s1 r0 r1 r2 x1 x2 y1 y2
  have c0 : w.cell? ⟨a, 0, none⟩ = some (.int .i64 b) := cellOf h rfl
  have c1 : w.cell? ⟨a, 1, none⟩ = some (.int .i64 n) := cellOf h rfl
  have c2 : w.cell? ⟨a, 2, none⟩ = some (.int .i64 r) := cellOf h rfl
  have c3 : w.cell? ⟨a, 3, none⟩ = some (.int .i64 t0) := cellOf h rfl
  have c4 : w.cell? ⟨a, 4, none⟩ = some (.int .i64 x0) := cellOf h rfl
  have c5 : w.cell? ⟨a, 5, none⟩ = some (.int .i64 y0) := cellOf h rfl
  have f0 : w.frozen? ⟨a, 0, none⟩ = false := freeOf h
  have f1 : w.frozen? ⟨a, 1, none⟩ = false := freeOf h
  have f2 : w.frozen? ⟨a, 2, none⟩ = false := freeOf h
  have f3 : w.frozen? ⟨a, 3, none⟩ = false := freeOf h
  have f4 : w.frozen? ⟨a, 4, none⟩ = false := freeOf h
  have f5 : w.frozen? ⟨a, 5, none⟩ = false := freeOf h
  have hlt : a < w.heap.size := lt_of_block h
  have H := Lib.hid h; clear h
  go_enter Try.func34, Try.ntmps34
  go_wp2_with
    (go_at_call 73; refine (bkNone_any a ⟨b, n, r, t0, x0, y0⟩ _ (by first | exact H.out | exact old_at _ H.out) b0).mono ?_; rintro e w' ⟨rfl, rfl⟩)
  go_ret
  exact ⟨rfl, rfl⟩
set_option maxHeartbeats 800000 in
theorem bkCopy_any (a : Nat) (s : BS) (w : World) (h : Bk a s w) (hs : s.Ok) : Calls Try.prog 32 #[.pointer (some ⟨a, 0, none⟩)] w fun e w' => e = .returned (.pointer (some ⟨w.heap.size, 0, none⟩)) ∧ Bk w.heap.size s w' ∧ Below w.heap.size w w' := by
  obtain ⟨b, n, r, t0, x0, y0⟩ := s
  obtain ⟨b0, b1, n0, n1, s0, s1, r0, r1, r2, x1, x2, y1, y2⟩ := hs
  dsimp only at b0 b1 n0 n1 s0 s1 r0 r1 r2 x1 x2 y1 y2
  have c0 : w.cell? ⟨a, 0, none⟩ = some (.int .i64 b) := cellOf h rfl
  have c1 : w.cell? ⟨a, 1, none⟩ = some (.int .i64 n) := cellOf h rfl
  have c2 : w.cell? ⟨a, 2, none⟩ = some (.int .i64 r) := cellOf h rfl
  have c3 : w.cell? ⟨a, 3, none⟩ = some (.int .i64 t0) := cellOf h rfl
  have c4 : w.cell? ⟨a, 4, none⟩ = some (.int .i64 x0) := cellOf h rfl
  have c5 : w.cell? ⟨a, 5, none⟩ = some (.int .i64 y0) := cellOf h rfl
  have f0 : w.frozen? ⟨a, 0, none⟩ = false := freeOf h
  have f1 : w.frozen? ⟨a, 1, none⟩ = false := freeOf h
  have f2 : w.frozen? ⟨a, 2, none⟩ = false := freeOf h
  have f3 : w.frozen? ⟨a, 3, none⟩ = false := freeOf h
  have f4 : w.frozen? ⟨a, 4, none⟩ = false := freeOf h
  have f5 : w.frozen? ⟨a, 5, none⟩ = false := freeOf h
  have hlt : a < w.heap.size := lt_of_block h
  have H := Lib.hid h; clear h
  go_enter Try.func32, Try.ntmps32
  go_wp2_with
    (go_at_call 73; refine (bkNone_any a ⟨b, n, r, t0, x0, y0⟩ _ (by first | exact H.out | exact old_at _ H.out) b0).mono ?_; rintro e w' ⟨rfl, rfl⟩)
  go_ret
  exact ⟨rfl, new_at _ _, (Below.refl _ _).alloc (Nat.le_refl _) _⟩
set_option maxHeartbeats 800000 in
theorem bkNew_yes (b t : Int) (w : World) (hb : BS.newE b t = 0) : Calls Try.prog 27 #[.int .i64 b, .int .i64 t] w fun e w' => e = .returned (.tuple #[.pointer (some ⟨w.heap.size, 0, none⟩), .int .i64 0]) ∧ Bk w.heap.size (BS.new b t) w' ∧ Below w.heap.size w w' := by
  unfold BS.newE at hb
  by_cases g : (1 ≤ b ∧ b ≤ 1073741824) ∧ isNum t = true
  · obtain ⟨⟨g0, g1⟩, g2⟩ := g
    clear hb
    go_enter Try.func27, Try.ntmps27
    go_wp2_with (first | (go_at_call 46; refine (is_any _ _).mono ?_; rintro e w' ⟨rfl, rfl⟩))
    go_ret2
    exact ⟨rfl, new_at _ _, (Below.refl _ _).alloc (Nat.le_refl _) _⟩
  · rw [if_neg g] at hb; omega
set_option maxHeartbeats 800000 in
theorem bkNew_no (b t : Int) (w : World) (hb : BS.newE b t ≠ 0) : Calls Try.prog 27 #[.int .i64 b, .int .i64 t] w fun e w' => e = .returned (.tuple #[.pointer none, .int .i64 2]) ∧ w = w' := by
  unfold BS.newE at hb
  by_cases g : (1 ≤ b ∧ b ≤ 1073741824) ∧ isNum t = true
  · rw [if_pos g] at hb; omega
  · clear hb
    by_cases g0 : 1 ≤ b
    · by_cases g1 : b ≤ 1073741824
      · have g2 : isNum t = false := by
          rcases h : isNum t with _ | _
          · rfl
          · exact absurd ⟨⟨g0, g1⟩, h⟩ g
        clear g
        go_enter Try.func27, Try.ntmps27
        go_wp2_with (first | (go_at_call 46; refine (is_any _ _).mono ?_; rintro e w' ⟨rfl, rfl⟩))
        go_ret2
        exact ⟨rfl, rfl⟩
      · clear g
        go_enter Try.func27, Try.ntmps27
        go_wp2_with (first | (go_at_call 46; refine (is_any _ _).mono ?_; rintro e w' ⟨rfl, rfl⟩))
        go_ret2
        exact ⟨rfl, rfl⟩
    · clear g
      go_enter Try.func27, Try.ntmps27
      go_wp2_with (first | (go_at_call 46; refine (is_any _ _).mono ?_; rintro e w' ⟨rfl, rfl⟩))
      go_ret2
      exact ⟨rfl, rfl⟩

set_option maxRecDepth 100000 in
set_option maxHeartbeats 1600000 in
theorem bkFill_no (a : Nat) (s : BS) (t x y : Int) (w : World) (h : Bk a s w) (hs : s.Ok) (he : s.fillE t x y ≠ 0) :
    Calls Try.prog 29 #[.pointer (some ⟨a, 0, none⟩), .int .i64 t, .agg #[.int .i64 x, .int .i64 y]] w fun e w' => e = .returned (.int .i64 (s.fillE t x y)) ∧ Bk a s w' ∧ Ch a w w' := by
  rcases hi : isNum t with _ | _
  · rw [BS.fillE_time hi]
    clear he
    obtain ⟨b, n, r, t0, x0, y0⟩ := s
    obtain ⟨b0, b1, n0, n1, s0, s1, r0, r1, r2, x1, x2, y1, y2⟩ := hs
    dsimp only at b0 b1 n0 n1 s0 s1 r0 r1 r2 x1 x2 y1 y2
    have c0 : w.cell? ⟨a, 0, none⟩ = some (.int .i64 b) := cellOf h rfl
    have c1 : w.cell? ⟨a, 1, none⟩ = some (.int .i64 n) := cellOf h rfl
    have c2 : w.cell? ⟨a, 2, none⟩ = some (.int .i64 r) := cellOf h rfl
    have c3 : w.cell? ⟨a, 3, none⟩ = some (.int .i64 t0) := cellOf h rfl
    have c4 : w.cell? ⟨a, 4, none⟩ = some (.int .i64 x0) := cellOf h rfl
    have c5 : w.cell? ⟨a, 5, none⟩ = some (.int .i64 y0) := cellOf h rfl
    have f0 : w.frozen? ⟨a, 0, none⟩ = false := freeOf h
    have f1 : w.frozen? ⟨a, 1, none⟩ = false := freeOf h
    have f2 : w.frozen? ⟨a, 2, none⟩ = false := freeOf h
    have f3 : w.frozen? ⟨a, 3, none⟩ = false := freeOf h
    have f4 : w.frozen? ⟨a, 4, none⟩ = false := freeOf h
    have f5 : w.frozen? ⟨a, 5, none⟩ = false := freeOf h
    have hlt : a < w.heap.size := lt_of_block h
    have H := Lib.hid h; clear h
    go_enter Try.func29, Try.ntmps29
    go_wp2_with (first
      | (go_at_call 46; refine (is_any _ _).mono ?_; rintro e w' ⟨rfl, rfl⟩)
      |
        (go_at_call 73; refine (bkNone_any a ⟨b, n, r, t0, x0, y0⟩ _ (by first | exact H.out | exact old_at _ H.out) b0).mono ?_; rintro e w' ⟨rfl, rfl⟩)
      )
    go_ret
    refine ⟨rfl, ?_, ?_⟩
    · first | exact HW.out.bk | exact old_at _ H.out
    · first | exact HW.out.ch | exact (Ch.refl a w).alloc _
  · rcases hm : may x y with _ | _
    · rw [BS.fillE_rate hm]
      clear he
      obtain ⟨b, n, r, t0, x0, y0⟩ := s
      obtain ⟨b0, b1, n0, n1, s0, s1, r0, r1, r2, x1, x2, y1, y2⟩ := hs
      dsimp only at b0 b1 n0 n1 s0 s1 r0 r1 r2 x1 x2 y1 y2
      have c0 : w.cell? ⟨a, 0, none⟩ = some (.int .i64 b) := cellOf h rfl
      have c1 : w.cell? ⟨a, 1, none⟩ = some (.int .i64 n) := cellOf h rfl
      have c2 : w.cell? ⟨a, 2, none⟩ = some (.int .i64 r) := cellOf h rfl
      have c3 : w.cell? ⟨a, 3, none⟩ = some (.int .i64 t0) := cellOf h rfl
      have c4 : w.cell? ⟨a, 4, none⟩ = some (.int .i64 x0) := cellOf h rfl
      have c5 : w.cell? ⟨a, 5, none⟩ = some (.int .i64 y0) := cellOf h rfl
      have f0 : w.frozen? ⟨a, 0, none⟩ = false := freeOf h
      have f1 : w.frozen? ⟨a, 1, none⟩ = false := freeOf h
      have f2 : w.frozen? ⟨a, 2, none⟩ = false := freeOf h
      have f3 : w.frozen? ⟨a, 3, none⟩ = false := freeOf h
      have f4 : w.frozen? ⟨a, 4, none⟩ = false := freeOf h
      have f5 : w.frozen? ⟨a, 5, none⟩ = false := freeOf h
      have hlt : a < w.heap.size := lt_of_block h
      have H := Lib.hid h; clear h
      go_enter Try.func29, Try.ntmps29
      go_wp2_with (first
        | (go_at_call 46; refine (is_any _ _).mono ?_; rintro e w' ⟨rfl, rfl⟩)
        |
          (go_at_call 74; refine (may_any _ _ _).mono ?_; rintro e wB ⟨rfl, hB⟩; have HW := Lib.hid (FW.step (a := a) (s := ⟨b, n, r, t0, x0, y0⟩) (K := w.heap.size) (x := x) (y := y) (w0 := w) ⟨old_at _ H.out, new_at _ _, (Ch.refl a w).alloc _⟩ hB); have cB3 : wB.cell? ⟨a, 3, none⟩ = some (.int .i64 t0) := cellOf HW.out.bk rfl)
        |
          (go_at_call 73; refine (bkNone_any a ⟨b, n, r, t0, x0, y0⟩ _ (by first | exact H.out | exact old_at _ H.out) b0).mono ?_; rintro e w' ⟨rfl, rfl⟩)
        )
      go_ret
      refine ⟨rfl, ?_, ?_⟩
      · first | exact HW.out.bk | exact old_at _ H.out
      · first | exact HW.out.ch | exact (Ch.refl a w).alloc _
    · by_cases hb : t < s.t
      · rw [BS.fillE_back hi hm hb]
        clear he
        obtain ⟨b, n, r, t0, x0, y0⟩ := s
        obtain ⟨b0, b1, n0, n1, s0, s1, r0, r1, r2, x1, x2, y1, y2⟩ := hs
        dsimp only at b0 b1 n0 n1 s0 s1 r0 r1 r2 x1 x2 y1 y2
        have c0 : w.cell? ⟨a, 0, none⟩ = some (.int .i64 b) := cellOf h rfl
        have c1 : w.cell? ⟨a, 1, none⟩ = some (.int .i64 n) := cellOf h rfl
        have c2 : w.cell? ⟨a, 2, none⟩ = some (.int .i64 r) := cellOf h rfl
        have c3 : w.cell? ⟨a, 3, none⟩ = some (.int .i64 t0) := cellOf h rfl
        have c4 : w.cell? ⟨a, 4, none⟩ = some (.int .i64 x0) := cellOf h rfl
        have c5 : w.cell? ⟨a, 5, none⟩ = some (.int .i64 y0) := cellOf h rfl
        have f0 : w.frozen? ⟨a, 0, none⟩ = false := freeOf h
        have f1 : w.frozen? ⟨a, 1, none⟩ = false := freeOf h
        have f2 : w.frozen? ⟨a, 2, none⟩ = false := freeOf h
        have f3 : w.frozen? ⟨a, 3, none⟩ = false := freeOf h
        have f4 : w.frozen? ⟨a, 4, none⟩ = false := freeOf h
        have f5 : w.frozen? ⟨a, 5, none⟩ = false := freeOf h
        have hlt : a < w.heap.size := lt_of_block h
        have H := Lib.hid h; clear h
        dsimp only at hb
        go_enter Try.func29, Try.ntmps29
        go_wp2_with (first
          | (go_at_call 46; refine (is_any _ _).mono ?_; rintro e w' ⟨rfl, rfl⟩)
          |
            (go_at_call 74; refine (may_any _ _ _).mono ?_; rintro e wB ⟨rfl, hB⟩; have HW := Lib.hid (FW.step (a := a) (s := ⟨b, n, r, t0, x0, y0⟩) (K := w.heap.size) (x := x) (y := y) (w0 := w) ⟨old_at _ H.out, new_at _ _, (Ch.refl a w).alloc _⟩ hB); have cB3 : wB.cell? ⟨a, 3, none⟩ = some (.int .i64 t0) := cellOf HW.out.bk rfl)
          |
            (go_at_call 73; refine (bkNone_any a ⟨b, n, r, t0, x0, y0⟩ _ (by first | exact H.out | exact old_at _ H.out) b0).mono ?_; rintro e w' ⟨rfl, rfl⟩)
          )
        go_ret
        refine ⟨rfl, ?_, ?_⟩
        · first | exact HW.out.bk | exact old_at _ H.out
        · first | exact HW.out.ch | exact (Ch.refl a w).alloc _
      · exact absurd (BS.fillE_yes hi hm (by omega)) he

set_option maxRecDepth 100000 in
set_option maxHeartbeats 1600000 in
theorem bkFill_yes (a : Nat) (s : BS) (t x y : Int) (w : World) (h : Bk a s w) (hs : s.Ok) (he : s.fillE t x y = 0) :
    Calls Try.prog 29 #[.pointer (some ⟨a, 0, none⟩), .int .i64 t, .agg #[.int .i64 x, .int .i64 y]] w fun e w' => e = .returned (.int .i64 0) ∧ Bk a (s.fill t x y) w' ∧ Ch a w w' := by
  obtain ⟨hi, hm, hb⟩ := BS.fillE_zero he
  clear he
  obtain ⟨i0, i1⟩ := isNum_true hi
  obtain ⟨⟨p0, p1⟩, ⟨q0, q1⟩⟩ := may_true hm
  have k0 := BS.keep_lo hs x y
  have k1 := BS.keep_hi hs (x := x) q0
  have hmf : ∀ (fn : Fn) (first cap : Array Value) (w : World), (Instr.makeFunc fn first cap).run Try.prog w = .ok (.func fn first cap) w := fun _ _ _ _ => rfl
  have e2 : ((BS.turn s x y).pass t x y).full = s.fill t x y := rfl
  obtain ⟨b, n, r, t0, x0, y0⟩ := s
  obtain ⟨b0, b1, n0, n1, s0, s1, r0, r1, r2, x1, x2, y1, y2⟩ := hs
  dsimp only at b0 b1 n0 n1 s0 s1 r0 r1 r2 x1 x2 y1 y2
  have c0 : w.cell? ⟨a, 0, none⟩ = some (.int .i64 b) := cellOf h rfl
  have c1 : w.cell? ⟨a, 1, none⟩ = some (.int .i64 n) := cellOf h rfl
  have c2 : w.cell? ⟨a, 2, none⟩ = some (.int .i64 r) := cellOf h rfl
  have c3 : w.cell? ⟨a, 3, none⟩ = some (.int .i64 t0) := cellOf h rfl
  have c4 : w.cell? ⟨a, 4, none⟩ = some (.int .i64 x0) := cellOf h rfl
  have c5 : w.cell? ⟨a, 5, none⟩ = some (.int .i64 y0) := cellOf h rfl
  have f0 : w.frozen? ⟨a, 0, none⟩ = false := freeOf h
  have f1 : w.frozen? ⟨a, 1, none⟩ = false := freeOf h
  have f2 : w.frozen? ⟨a, 2, none⟩ = false := freeOf h
  have f3 : w.frozen? ⟨a, 3, none⟩ = false := freeOf h
  have f4 : w.frozen? ⟨a, 4, none⟩ = false := freeOf h
  have f5 : w.frozen? ⟨a, 5, none⟩ = false := freeOf h
  have hlt : a < w.heap.size := lt_of_block h
  have H := Lib.hid h; clear h
  dsimp only at hb
  go_enter Try.func29, Try.ntmps29
  go_wp2_with (first
    | (go_at_call 46; refine (is_any _ _).mono ?_; rintro e w' ⟨rfl, rfl⟩)
    |
      (go_at_call 74; refine (may_any _ _ _).mono ?_; rintro e wB ⟨rfl, hB⟩; have HW := Lib.hid (FW.step (a := a) (s := ⟨b, n, r, t0, x0, y0⟩) (K := w.heap.size) (x := x) (y := y) (w0 := w) ⟨old_at _ H.out, new_at _ _, (Ch.refl a w).alloc _⟩ hB); have cB3 : wB.cell? ⟨a, 3, none⟩ = some (.int .i64 t0) := cellOf HW.out.bk rfl)
    |
      (go_at_call 73; refine (bkNone_any a ⟨b, n, r, t0, x0, y0⟩ _ (by first | exact H.out | exact old_at _ H.out) b0).mono ?_; rintro e w' ⟨rfl, rfl⟩)
    )
  have hc1 : (Ch a w wB) := HW.out.ch
  have n1 : wB.heap.size ≠ a := by have := lt_of_block HW.out.bk; omega
  have n2 : w.heap.size ≠ a := by omega
  go_loopw [8, 34] (fun f i wr => ∃ k : Nat, k ≤ 3 ∧ i = .int .i64 k ∧ FL a (BS.after ⟨b, n, r, t0, x0, y0⟩ t x y k) w.heap.size x y wB.heap.size w wr) (fun _ i _ => (3 - intOf i).toNat)
  case atStart => exact ⟨0, by omega, rfl, ⟨⟨old_at _ HW.out.bk, old_at _ HW.out.rt, HW.out.ch.alloc _⟩, new_at _ _, n2, n1⟩⟩
  case round =>
    obtain ⟨k, hk, rfl, hfl⟩ := hrel
    clear c0 c1 c2 c3 c4 c5 f0 f1 f2 f3 f4 f5
    have HF := Lib.hid hfl; clear hfl
    have g0 : wr.cell? ⟨wB.heap.size, 0, none⟩ = some (.func (Fn.func 75) #[.pointer (some ⟨a, 0, none⟩)] #[]) := cellOf HF.out.fs rfl
    have g1 : wr.cell? ⟨wB.heap.size, 1, none⟩ = some (.func (Fn.func 76) #[.pointer (some ⟨a, 0, none⟩)] #[]) := cellOf HF.out.fs rfl
    have g2 : wr.cell? ⟨wB.heap.size, 2, none⟩ = some (.func (Fn.func 77) #[.pointer (some ⟨a, 0, none⟩)] #[]) := cellOf HF.out.fs rfl
    have g3 : wr.cell? ⟨w.heap.size, 0, none⟩ = some (.int .i64 x) := cellOf HF.out.fw.rt rfl
    have g4 : wr.cell? ⟨w.heap.size, 1, none⟩ = some (.int .i64 y) := cellOf HF.out.fw.rt rfl
    have hk4 : k = 0 ∨ k = 1 ∨ k = 2 ∨ k = 3 := by omega
    rcases hk4 with rfl | rfl | rfl | rfl
    · go_wp2_with (first | (go_at_call 75; refine (turn_any a _ t x y _ HF.out.fw.bk).mono ?_; rintro e wC ⟨rfl, hC1, hC2⟩; have hD := HF.out.to hC1 hC2))
      go_roundw
      case rel => exact ⟨1, by omega, by go_num, hD⟩
      case measure => simp [intOf]
    · go_wp2_with (first | (go_at_call 76; refine (pass_any a b n _ t0 t x y _ HF.out.fw.bk s0 hb i1 k0 (by omega) q0 q1).mono ?_; rintro e wC ⟨rfl, hC1, hC2⟩; have hD := HF.out.to hC1 hC2))
      go_roundw
      case rel => exact ⟨2, by omega, by go_num, hD⟩
      case measure => simp [intOf]
    · go_wp2_with (first | (go_at_call 77; refine (full_any a _ t x y _ HF.out.fw.bk).mono ?_; rintro e wC ⟨rfl, hC1, hC2⟩; have hD := HF.out.to hC1 hC2))
      go_roundw
      case rel => exact ⟨3, by omega, by go_num, hD⟩
      case measure => simp [intOf]
    · go_wp2_with fail
      go_ret
      exact ⟨rfl, HF.out.fw.bk, HF.out.fw.ch⟩
theorem bkFill_any (a : Nat) (s : BS) (t x y : Int) (w : World) (h : Bk a s w) (hs : s.Ok) :
    Calls Try.prog 29 #[.pointer (some ⟨a, 0, none⟩), .int .i64 t, .agg #[.int .i64 x, .int .i64 y]] w fun e w' => e = .returned (.int .i64 (s.fillE t x y)) ∧ Bk a (s.filled t x y) w' ∧ Ch a w w' := by
  by_cases he : s.fillE t x y = 0
  · rw [BS.filled_yes he, he]; exact bkFill_yes a s t x y w h hs he
  · rw [BS.filled_no he]; exact bkFill_no a s t x y w h hs he
end Go.Proofs.Ytnmekhgilekofaa
