/- The methods of the reference of layer 13: New, Take, Copy, Fill. -/
import Derived.Test.YtcholjdbmmgakaaBuckE
import Derived.Outline
import Derived.Test.YtcholjdbmmgakaaBuckMathB
namespace Go.Proofs.Ytcholjdbmmgakaa
open Go.RowKit Sat

set_option maxHeartbeats 800000 in
theorem rbTake_any (a : Nat) (s : BS) (k : Int) (w : World) (h : RBk a s w) (hs : s.Ok) : Calls Try.prog 82 #[.pointer (some ⟨a, 0, none⟩), .int .i64 k] w fun e w' => e = .returned (.int .i64 (s.takeE k)) ∧ RBk a (s.taken k) w' ∧ Ch a w w' := by
  by_cases hk : k < 0
  · rw [BS.taken_no (by rw [BS.takeE_neg hk]; decide), BS.takeE_neg hk]
    obtain ⟨b, n, r, t0, x0, y0⟩ := s
    obtain ⟨b0, b1, n0, n1, s0, s1, r0, r1, r2, x1, x2, y1, y2⟩ := hs
    dsimp only at b0 b1 n0 n1 s0 s1 r0 r1 r2 x1 x2 y1 y2
    have c0 : w.cell? ⟨a, 0, none⟩ = some (.int .i64 b) := cellOf h rfl
    have c1 : w.cell? ⟨a, 1, none⟩ = some (.int .i64 n) := cellOf h rfl
    have c2 : w.cell? ⟨a, 2, none⟩ = some (.int .i64 r) := cellOf h rfl
    have c3 : w.cell? ⟨a, 3, none⟩ = some (.int .i64 t0) := cellOf h rfl
    have c4 : w.cell? ⟨a, 4, none⟩ = some (.int .i64 x0) := cellOf h rfl
    have c5 : w.cell? ⟨a, 5, none⟩ = some (.int .i64 y0) := cellOf h rfl
    have f0 : w.frozen? ⟨a, 0, none⟩ = false := freeOf h
    have f1 : w.frozen? ⟨a, 1, none⟩ = false := freeOf h
    have f2 : w.frozen? ⟨a, 2, none⟩ = false := freeOf h
    have f3 : w.frozen? ⟨a, 3, none⟩ = false := freeOf h
    have f4 : w.frozen? ⟨a, 4, none⟩ = false := freeOf h
    have f5 : w.frozen? ⟨a, 5, none⟩ = false := freeOf h
    have hlt : a < w.heap.size := lt_of_block h
    have H := Lib.hid h; clear h
    go_enter Try.func82, Try.ntmps82
    go_wp2_with fail
    go_ret
    exact ⟨rfl, H.out, Ch.refl _ _⟩
  · by_cases hn : s.n < k
    · rw [BS.taken_no (by rw [BS.takeE_big hn (by omega)]; decide), BS.takeE_big hn (by omega)]
      obtain ⟨b, n, r, t0, x0, y0⟩ := s
      obtain ⟨b0, b1, n0, n1, s0, s1, r0, r1, r2, x1, x2, y1, y2⟩ := hs
      dsimp only at b0 b1 n0 n1 s0 s1 r0 r1 r2 x1 x2 y1 y2
      have c0 : w.cell? ⟨a, 0, none⟩ = some (.int .i64 b) := cellOf h rfl
      have c1 : w.cell? ⟨a, 1, none⟩ = some (.int .i64 n) := cellOf h rfl
      have c2 : w.cell? ⟨a, 2, none⟩ = some (.int .i64 r) := cellOf h rfl
      have c3 : w.cell? ⟨a, 3, none⟩ = some (.int .i64 t0) := cellOf h rfl
      have c4 : w.cell? ⟨a, 4, none⟩ = some (.int .i64 x0) := cellOf h rfl
      have c5 : w.cell? ⟨a, 5, none⟩ = some (.int .i64 y0) := cellOf h rfl
      have f0 : w.frozen? ⟨a, 0, none⟩ = false := freeOf h
      have f1 : w.frozen? ⟨a, 1, none⟩ = false := freeOf h
      have f2 : w.frozen? ⟨a, 2, none⟩ = false := freeOf h
      have f3 : w.frozen? ⟨a, 3, none⟩ = false := freeOf h
      have f4 : w.frozen? ⟨a, 4, none⟩ = false := freeOf h
      have f5 : w.frozen? ⟨a, 5, none⟩ = false := freeOf h
      have hlt : a < w.heap.size := lt_of_block h
      have H := Lib.hid h; clear h
      dsimp only at hn
      go_enter Try.func82, Try.ntmps82
      go_wp2_with fail
      go_ret
      exact ⟨rfl, H.out, Ch.refl _ _⟩
    · have e := BS.takeE_yes (s := s) (k := k) (by omega) (by omega)
      rw [BS.taken_yes e, e]
      clear e
      obtain ⟨b, n, r, t0, x0, y0⟩ := s
      obtain ⟨b0, b1, n0, n1, s0, s1, r0, r1, r2, x1, x2, y1, y2⟩ := hs
      dsimp only at b0 b1 n0 n1 s0 s1 r0 r1 r2 x1 x2 y1 y2
      have c0 : w.cell? ⟨a, 0, none⟩ = some (.int .i64 b) := cellOf h rfl
      have c1 : w.cell? ⟨a, 1, none⟩ = some (.int .i64 n) := cellOf h rfl
      have c2 : w.cell? ⟨a, 2, none⟩ = some (.int .i64 r) := cellOf h rfl
      have c3 : w.cell? ⟨a, 3, none⟩ = some (.int .i64 t0) := cellOf h rfl
      have c4 : w.cell? ⟨a, 4, none⟩ = some (.int .i64 x0) := cellOf h rfl
      have c5 : w.cell? ⟨a, 5, none⟩ = some (.int .i64 y0) := cellOf h rfl
      have f0 : w.frozen? ⟨a, 0, none⟩ = false := freeOf h
      have f1 : w.frozen? ⟨a, 1, none⟩ = false := freeOf h
      have f2 : w.frozen? ⟨a, 2, none⟩ = false := freeOf h
      have f3 : w.frozen? ⟨a, 3, none⟩ = false := freeOf h
      have f4 : w.frozen? ⟨a, 4, none⟩ = false := freeOf h
      have f5 : w.frozen? ⟨a, 5, none⟩ = false := freeOf h
      have hlt : a < w.heap.size := lt_of_block h
      have H := Lib.hid h; clear h
      dsimp only at hn ⊢
      go_enter Try.func82, Try.ntmps82
      go_wp2_with fail
      go_ret
      exact ⟨rfl, set_at H.out, Ch.set _ _ _ _⟩
set_option maxHeartbeats 800000 in
theorem rbCopy_any (a : Nat) (s : BS) (w : World) (h : RBk a s w) : Calls Try.prog 85 #[.pointer (some ⟨a, 0, none⟩)] w fun e w' => e = .returned (.pointer (some ⟨w.heap.size, 0, none⟩)) ∧ RBk w.heap.size s w' ∧ Below w.heap.size w w' := by
  obtain ⟨b, n, r, t0, x0, y0⟩ := s
  have c0 : w.cell? ⟨a, 0, none⟩ = some (.int .i64 b) := cellOf h rfl
  have c1 : w.cell? ⟨a, 1, none⟩ = some (.int .i64 n) := cellOf h rfl
  have c2 : w.cell? ⟨a, 2, none⟩ = some (.int .i64 r) := cellOf h rfl
  have c3 : w.cell? ⟨a, 3, none⟩ = some (.int .i64 t0) := cellOf h rfl
  have c4 : w.cell? ⟨a, 4, none⟩ = some (.int .i64 x0) := cellOf h rfl
  have c5 : w.cell? ⟨a, 5, none⟩ = some (.int .i64 y0) := cellOf h rfl
  have f0 : w.frozen? ⟨a, 0, none⟩ = false := freeOf h
  have f1 : w.frozen? ⟨a, 1, none⟩ = false := freeOf h
  have f2 : w.frozen? ⟨a, 2, none⟩ = false := freeOf h
  have f3 : w.frozen? ⟨a, 3, none⟩ = false := freeOf h
  have f4 : w.frozen? ⟨a, 4, none⟩ = false := freeOf h
  have f5 : w.frozen? ⟨a, 5, none⟩ = false := freeOf h
  have hlt : a < w.heap.size := lt_of_block h
  have H := Lib.hid h; clear h
  go_enter Try.func85, Try.ntmps85
  go_wp2_with fail
  go_ret
  exact ⟨rfl, new_at _ _, (Below.refl _ _).alloc (Nat.le_refl _) _⟩
set_option maxHeartbeats 800000 in
theorem rbNew_yes (b t : Int) (w : World) (hb : BS.newE b t = 0) : Calls Try.prog 80 #[.int .i64 b, .int .i64 t] w fun e w' => e = .returned (.tuple #[.pointer (some ⟨w.heap.size, 0, none⟩), .int .i64 0]) ∧ RBk w.heap.size (BS.new b t) w' ∧ Below w.heap.size w w' := by
  unfold BS.newE at hb
  by_cases g : (1 ≤ b ∧ b ≤ 1073741824) ∧ isNum t = true
  · obtain ⟨⟨g0, g1⟩, g2⟩ := g
    clear hb
    go_enter Try.func80, Try.ntmps80
    go_wp2_with (first | (go_at_call 29; refine (ris_any _ _).mono ?_; rintro e w' ⟨rfl, rfl⟩))
    go_ret2
    exact ⟨rfl, new_at _ _, (Below.refl _ _).alloc (Nat.le_refl _) _⟩
  · rw [if_neg g] at hb; omega
set_option maxHeartbeats 800000 in
theorem rbNew_no (b t : Int) (w : World) (hb : BS.newE b t ≠ 0) : Calls Try.prog 80 #[.int .i64 b, .int .i64 t] w fun e w' => e = .returned (.tuple #[.pointer none, .int .i64 2]) ∧ w = w' := by
  unfold BS.newE at hb
  by_cases g : (1 ≤ b ∧ b ≤ 1073741824) ∧ isNum t = true
  · rw [if_pos g] at hb; omega
  · clear hb
    by_cases g0 : 1 ≤ b
    · by_cases g1 : b ≤ 1073741824
      · have g2 : isNum t = false := by
          rcases h : isNum t with _ | _
          · rfl
          · exact absurd ⟨⟨g0, g1⟩, h⟩ g
        clear g
        go_enter Try.func80, Try.ntmps80
        go_wp2_with (first | (go_at_call 29; refine (ris_any _ _).mono ?_; rintro e w' ⟨rfl, rfl⟩))
        go_ret2
        exact ⟨rfl, rfl⟩
      · clear g
        go_enter Try.func80, Try.ntmps80
        go_wp2_with (first | (go_at_call 29; refine (ris_any _ _).mono ?_; rintro e w' ⟨rfl, rfl⟩))
        go_ret2
        exact ⟨rfl, rfl⟩
    · clear g
      go_enter Try.func80, Try.ntmps80
      go_wp2_with (first | (go_at_call 29; refine (ris_any _ _).mono ?_; rintro e w' ⟨rfl, rfl⟩))
      go_ret2
      exact ⟨rfl, rfl⟩

theorem Sat.BS.more_eq {s : BS} (h : s.Ok) (t : Int) {x y : Int} (h0 : 1 ≤ y) (h1 : y ≤ 9007199254740991) : s.more t x y = add (mulDiv (t - s.t) x y) (s.sum t x y / y) := by
  have l0 := BS.sum_lo h t x y; have l1 := BS.sum_hi h t (x := x) h0 h1
  have m0 := mulDiv_lo (t - s.t) x y; have m1 := mulDiv_hi (t - s.t) x y
  unfold BS.more
  by_cases g : y ≤ s.sum t x y
  · have e : s.sum t x y / y = 1 := (divmod_of (q := 1) (r := s.sum t x y - y) (by omega) (by omega) (by omega) (by omega)).1
    rw [if_pos g, e]
  · rw [if_neg g, Int.ediv_eq_zero_of_lt l0 (by omega), add_zero', num_id m0 m1]
theorem Sat.BS.part_eq {s : BS} (h : s.Ok) (t : Int) {x y : Int} (h0 : 1 ≤ y) (h1 : y ≤ 9007199254740991) : s.part t x y = s.sum t x y % y := by
  have l0 := BS.sum_lo h t x y; have l1 := BS.sum_hi h t (x := x) h0 h1
  unfold BS.part
  by_cases g : y ≤ s.sum t x y
  · rw [if_pos g, (divmod_of (q := 1) (r := s.sum t x y - y) (by omega) (by omega) (by omega) (by omega)).2]
  · rw [if_neg g, Int.emod_eq_of_lt l0 (by omega)]

set_option maxRecDepth 100000 in
set_option maxHeartbeats 1600000 in
theorem rbFill_no (a : Nat) (s : BS) (t x y : Int) (w : World) (h : RBk a s w) (hs : s.Ok) (he : s.fillE t x y ≠ 0) :
    Calls Try.prog 81 #[.pointer (some ⟨a, 0, none⟩), .int .i64 t, .agg #[.int .i64 x, .int .i64 y]] w fun e w' => e = .returned (.int .i64 (s.fillE t x y)) ∧ RBk a s w' ∧ Ch a w w' := by
  rcases hi : isNum t with _ | _
  · rw [BS.fillE_time hi]
    clear he
    obtain ⟨b, n, r, t0, x0, y0⟩ := s
    obtain ⟨b0, b1, n0, n1, s0, s1, r0, r1, r2, x1, x2, y1, y2⟩ := hs
    dsimp only at b0 b1 n0 n1 s0 s1 r0 r1 r2 x1 x2 y1 y2
    have c0 : w.cell? ⟨a, 0, none⟩ = some (.int .i64 b) := cellOf h rfl
    have c1 : w.cell? ⟨a, 1, none⟩ = some (.int .i64 n) := cellOf h rfl
    have c2 : w.cell? ⟨a, 2, none⟩ = some (.int .i64 r) := cellOf h rfl
    have c3 : w.cell? ⟨a, 3, none⟩ = some (.int .i64 t0) := cellOf h rfl
    have c4 : w.cell? ⟨a, 4, none⟩ = some (.int .i64 x0) := cellOf h rfl
    have c5 : w.cell? ⟨a, 5, none⟩ = some (.int .i64 y0) := cellOf h rfl
    have f0 : w.frozen? ⟨a, 0, none⟩ = false := freeOf h
    have f1 : w.frozen? ⟨a, 1, none⟩ = false := freeOf h
    have f2 : w.frozen? ⟨a, 2, none⟩ = false := freeOf h
    have f3 : w.frozen? ⟨a, 3, none⟩ = false := freeOf h
    have f4 : w.frozen? ⟨a, 4, none⟩ = false := freeOf h
    have f5 : w.frozen? ⟨a, 5, none⟩ = false := freeOf h
    have hlt : a < w.heap.size := lt_of_block h
    have H := Lib.hid h; clear h
    go_enter Try.func81, Try.ntmps81
    go_wp2_with (go_at_call 29; refine (ris_any _ _).mono ?_; rintro e w' ⟨rfl, rfl⟩)
    go_ret
    refine ⟨rfl, ?_, ?_⟩
    · first | exact H.out | exact at_old HB.out (lt_of_block (old_at _ H.out)) (old_at _ H.out) | exact old_at _ H.out
    · first | exact Ch.refl _ _ | exact ((Ch.refl a w).alloc _).step HB.out | exact (Ch.refl a w).alloc _
  · rcases hm : may x y with _ | _
    · rw [BS.fillE_rate hm]
      clear he
      obtain ⟨b, n, r, t0, x0, y0⟩ := s
      obtain ⟨b0, b1, n0, n1, s0, s1, r0, r1, r2, x1, x2, y1, y2⟩ := hs
      dsimp only at b0 b1 n0 n1 s0 s1 r0 r1 r2 x1 x2 y1 y2
      have c0 : w.cell? ⟨a, 0, none⟩ = some (.int .i64 b) := cellOf h rfl
      have c1 : w.cell? ⟨a, 1, none⟩ = some (.int .i64 n) := cellOf h rfl
      have c2 : w.cell? ⟨a, 2, none⟩ = some (.int .i64 r) := cellOf h rfl
      have c3 : w.cell? ⟨a, 3, none⟩ = some (.int .i64 t0) := cellOf h rfl
      have c4 : w.cell? ⟨a, 4, none⟩ = some (.int .i64 x0) := cellOf h rfl
      have c5 : w.cell? ⟨a, 5, none⟩ = some (.int .i64 y0) := cellOf h rfl
      have f0 : w.frozen? ⟨a, 0, none⟩ = false := freeOf h
      have f1 : w.frozen? ⟨a, 1, none⟩ = false := freeOf h
      have f2 : w.frozen? ⟨a, 2, none⟩ = false := freeOf h
      have f3 : w.frozen? ⟨a, 3, none⟩ = false := freeOf h
      have f4 : w.frozen? ⟨a, 4, none⟩ = false := freeOf h
      have f5 : w.frozen? ⟨a, 5, none⟩ = false := freeOf h
      have hlt : a < w.heap.size := lt_of_block h
      have H := Lib.hid h; clear h
      go_enter Try.func81, Try.ntmps81
      go_wp2_with (first
        | (go_at_call 29; refine (ris_any _ _).mono ?_; rintro e w' ⟨rfl, rfl⟩)
        |
          (go_at_call 124; refine (rmay_any _ _ _).mono ?_; rintro e wB ⟨rfl, hB⟩; have HB := Lib.hid hB; have hK : RRt w.heap.size x y wB := at_old hB (by simp) (new_at _ _); have hA : RBk a ⟨b, n, r, t0, x0, y0⟩ wB := at_old hB (lt_of_block (old_at _ H.out)) (old_at _ H.out); have d0 := cellOf (o := 0) hK rfl; have d1 := cellOf (o := 1) hK rfl; have e0 := cellOf (o := 0) hA rfl; have e1 := cellOf (o := 1) hA rfl; have e2 := cellOf (o := 2) hA rfl; have e3 := cellOf (o := 3) hA rfl; have e4 := cellOf (o := 4) hA rfl; have e5 := cellOf (o := 5) hA rfl; have g1 : wB.frozen? ⟨a, 1, none⟩ = false := freeOf hA; have g2 : wB.frozen? ⟨a, 2, none⟩ = false := freeOf hA; have g3 : wB.frozen? ⟨a, 3, none⟩ = false := freeOf hA; have g4 : wB.frozen? ⟨a, 4, none⟩ = false := freeOf hA; have g5 : wB.frozen? ⟨a, 5, none⟩ = false := freeOf hA; have gl : a < wB.heap.size := lt_of_block hA; have HK := Lib.hid hK; have HA := Lib.hid hA; clear hK hA hB)
        )
      go_ret
      refine ⟨rfl, ?_, ?_⟩
      · first | exact H.out | exact at_old HB.out (lt_of_block (old_at _ H.out)) (old_at _ H.out) | exact old_at _ H.out
      · first | exact Ch.refl _ _ | exact ((Ch.refl a w).alloc _).step HB.out | exact (Ch.refl a w).alloc _
    · by_cases hb : t < s.t
      · rw [BS.fillE_back hi hm hb]
        clear he
        obtain ⟨b, n, r, t0, x0, y0⟩ := s
        obtain ⟨b0, b1, n0, n1, s0, s1, r0, r1, r2, x1, x2, y1, y2⟩ := hs
        dsimp only at b0 b1 n0 n1 s0 s1 r0 r1 r2 x1 x2 y1 y2
        have c0 : w.cell? ⟨a, 0, none⟩ = some (.int .i64 b) := cellOf h rfl
        have c1 : w.cell? ⟨a, 1, none⟩ = some (.int .i64 n) := cellOf h rfl
        have c2 : w.cell? ⟨a, 2, none⟩ = some (.int .i64 r) := cellOf h rfl
        have c3 : w.cell? ⟨a, 3, none⟩ = some (.int .i64 t0) := cellOf h rfl
        have c4 : w.cell? ⟨a, 4, none⟩ = some (.int .i64 x0) := cellOf h rfl
        have c5 : w.cell? ⟨a, 5, none⟩ = some (.int .i64 y0) := cellOf h rfl
        have f0 : w.frozen? ⟨a, 0, none⟩ = false := freeOf h
        have f1 : w.frozen? ⟨a, 1, none⟩ = false := freeOf h
        have f2 : w.frozen? ⟨a, 2, none⟩ = false := freeOf h
        have f3 : w.frozen? ⟨a, 3, none⟩ = false := freeOf h
        have f4 : w.frozen? ⟨a, 4, none⟩ = false := freeOf h
        have f5 : w.frozen? ⟨a, 5, none⟩ = false := freeOf h
        have hlt : a < w.heap.size := lt_of_block h
        have H := Lib.hid h; clear h
        dsimp only at hb
        go_enter Try.func81, Try.ntmps81
        go_wp2_with (first
          | (go_at_call 29; refine (ris_any _ _).mono ?_; rintro e w' ⟨rfl, rfl⟩)
          |
            (go_at_call 124; refine (rmay_any _ _ _).mono ?_; rintro e wB ⟨rfl, hB⟩; have HB := Lib.hid hB; have hK : RRt w.heap.size x y wB := at_old hB (by simp) (new_at _ _); have hA : RBk a ⟨b, n, r, t0, x0, y0⟩ wB := at_old hB (lt_of_block (old_at _ H.out)) (old_at _ H.out); have d0 := cellOf (o := 0) hK rfl; have d1 := cellOf (o := 1) hK rfl; have e0 := cellOf (o := 0) hA rfl; have e1 := cellOf (o := 1) hA rfl; have e2 := cellOf (o := 2) hA rfl; have e3 := cellOf (o := 3) hA rfl; have e4 := cellOf (o := 4) hA rfl; have e5 := cellOf (o := 5) hA rfl; have g1 : wB.frozen? ⟨a, 1, none⟩ = false := freeOf hA; have g2 : wB.frozen? ⟨a, 2, none⟩ = false := freeOf hA; have g3 : wB.frozen? ⟨a, 3, none⟩ = false := freeOf hA; have g4 : wB.frozen? ⟨a, 4, none⟩ = false := freeOf hA; have g5 : wB.frozen? ⟨a, 5, none⟩ = false := freeOf hA; have gl : a < wB.heap.size := lt_of_block hA; have HK := Lib.hid hK; have HA := Lib.hid hA; clear hK hA hB)
          )
        go_ret
        refine ⟨rfl, ?_, ?_⟩
        · first | exact H.out | exact at_old HB.out (lt_of_block (old_at _ H.out)) (old_at _ H.out) | exact old_at _ H.out
        · first | exact Ch.refl _ _ | exact ((Ch.refl a w).alloc _).step HB.out | exact (Ch.refl a w).alloc _
      · exact absurd (BS.fillE_yes hi hm (by omega)) he
set_option maxRecDepth 100000 in
set_option maxHeartbeats 3200000 in
theorem rbFill_slow (a : Nat) (s : BS) (t x y R : Int) (w : World) (h : RBk a s w) (hs : s.Ok) (hi : isNum t = true) (hm : may x y = true) (hb : s.t ≤ t)
    (hR : (x = s.num ∧ y = s.den ∧ R = s.r) ∨ (x = s.num ∧ y ≠ s.den ∧ R = 0) ∨ (x ≠ s.num ∧ R = 0)) (k0 : 0 ≤ R) (k1 : R < y) (A : Int) (hA : add s.n (add (mulDiv (t - s.t) x y) ((mulLeft (t - s.t) x y + R) / y)) = A) (S : BS) (hS : S = if s.b ≤ A then ⟨s.b, s.b, 0, t, x, y⟩ else ⟨s.b, A, (mulLeft (t - s.t) x y + R) % y, t, x, y⟩) :
    Calls Try.prog 81 #[.pointer (some ⟨a, 0, none⟩), .int .i64 t, .agg #[.int .i64 x, .int .i64 y]] w fun e w' => e = .returned (.int .i64 0) ∧ RBk a S w' ∧ Ch a w w' := by
  obtain ⟨i0, i1⟩ := isNum_true hi
  obtain ⟨⟨p0, p1⟩, ⟨q0, q1⟩⟩ := may_true hm
  obtain ⟨b, n, r, t0, x0, y0⟩ := s
  obtain ⟨b0, b1, n0, n1, s0, s1, r0, r1, r2, x1, x2, y1, y2⟩ := hs
  dsimp only at b0 b1 n0 n1 s0 s1 r0 r1 r2 x1 x2 y1 y2 hb hR hA hS
  have l0 := mulLeft_lo (t - t0) x y
  have l1 := left_lt (t - t0) x y q0 q1
  by_cases hf : b ≤ A
  · rw [if_pos hf] at hS
    subst hS
    rcases hR with ⟨rfl, rfl, rfl⟩ | ⟨rfl, hd, rfl⟩ | ⟨hd, rfl⟩
    · skip
      have c0 : w.cell? ⟨a, 0, none⟩ = some (.int .i64 b) := cellOf h rfl
      have c1 : w.cell? ⟨a, 1, none⟩ = some (.int .i64 n) := cellOf h rfl
      have c2 : w.cell? ⟨a, 2, none⟩ = some (.int .i64 R) := cellOf h rfl
      have c3 : w.cell? ⟨a, 3, none⟩ = some (.int .i64 t0) := cellOf h rfl
      have c4 : w.cell? ⟨a, 4, none⟩ = some (.int .i64 x) := cellOf h rfl
      have c5 : w.cell? ⟨a, 5, none⟩ = some (.int .i64 y) := cellOf h rfl
      have f0 : w.frozen? ⟨a, 0, none⟩ = false := freeOf h
      have f1 : w.frozen? ⟨a, 1, none⟩ = false := freeOf h
      have f2 : w.frozen? ⟨a, 2, none⟩ = false := freeOf h
      have f3 : w.frozen? ⟨a, 3, none⟩ = false := freeOf h
      have f4 : w.frozen? ⟨a, 4, none⟩ = false := freeOf h
      have f5 : w.frozen? ⟨a, 5, none⟩ = false := freeOf h
      have hlt : a < w.heap.size := lt_of_block h
      have H := Lib.hid h; clear h
      go_enter Try.func81, Try.ntmps81
      go_wp2_with (first
        | (go_at_call 29; refine (ris_any _ _).mono ?_; rintro e w' ⟨rfl, rfl⟩)
        |
          (go_at_call 124; refine (rmay_any _ _ _).mono ?_; rintro e wB ⟨rfl, hB⟩; have HB := Lib.hid hB; have hK : RRt w.heap.size x y wB := at_old hB (by simp) (new_at _ _); have hA : RBk a ⟨b, n, R, t0, x, y⟩ wB := at_old hB (lt_of_block (old_at _ H.out)) (old_at _ H.out); have d0 := cellOf (o := 0) hK rfl; have d1 := cellOf (o := 1) hK rfl; have e0 := cellOf (o := 0) hA rfl; have e1 := cellOf (o := 1) hA rfl; have e2 := cellOf (o := 2) hA rfl; have e3 := cellOf (o := 3) hA rfl; have e4 := cellOf (o := 4) hA rfl; have e5 := cellOf (o := 5) hA rfl; have g1 : wB.frozen? ⟨a, 1, none⟩ = false := freeOf hA; have g2 : wB.frozen? ⟨a, 2, none⟩ = false := freeOf hA; have g3 : wB.frozen? ⟨a, 3, none⟩ = false := freeOf hA; have g4 : wB.frozen? ⟨a, 4, none⟩ = false := freeOf hA; have g5 : wB.frozen? ⟨a, 5, none⟩ = false := freeOf hA; have gl : a < wB.heap.size := lt_of_block hA; have HK := Lib.hid hK; have HA := Lib.hid hA; clear hK hA hB)
        )
      go_quiet (fail)
      go_wp2_with fail
      go_quiet ((go_at_call 39; exact quiet_more ((rmulRest_any _ _ _ _).mono fun _ _ ⟨x, y⟩ => ⟨x, y.symm⟩)))
      go_wp2_with (first | (go_at_call 33; refine (radd_any _ _ _).mono ?_; rintro e w' ⟨rfl, rfl⟩))
      go_quiet (fail)
      go_wp2_with fail
      go_ret
      have hch := ((Ch.refl a w).alloc (.cells #[.int .i64 x, .int .i64 y] 79 (0, 0))).step HB.out
      have hau : wB.heap[a]? = some (.cells #[.int .i64 b, .int .i64 n, .int .i64 R, .int .i64 t0, .int .i64 x, .int .i64 y] 134 (0, 0)) := HA.out
      refine ⟨rfl, ?_, ?_⟩
      · show (World.heap _)[a]? = _
        apply at_eq
        · (repeat (first | with_reducible exact hau | with_reducible apply set_at | with_reducible apply drewN_at | with_reducible apply drew_at))
        · rfl
      · (repeat (first | with_reducible exact hch | with_reducible apply Ch.setc | with_reducible apply Ch.alloc | with_reducible apply Ch.drewN | with_reducible apply Ch.drew))
    · have hd' : (y == y0) = false := beq_eq_false_iff_ne.2 hd
      simp only [Int.add_zero] at hA
      try simp only [Int.add_zero]
      have c0 : w.cell? ⟨a, 0, none⟩ = some (.int .i64 b) := cellOf h rfl
      have c1 : w.cell? ⟨a, 1, none⟩ = some (.int .i64 n) := cellOf h rfl
      have c2 : w.cell? ⟨a, 2, none⟩ = some (.int .i64 r) := cellOf h rfl
      have c3 : w.cell? ⟨a, 3, none⟩ = some (.int .i64 t0) := cellOf h rfl
      have c4 : w.cell? ⟨a, 4, none⟩ = some (.int .i64 x) := cellOf h rfl
      have c5 : w.cell? ⟨a, 5, none⟩ = some (.int .i64 y0) := cellOf h rfl
      have f0 : w.frozen? ⟨a, 0, none⟩ = false := freeOf h
      have f1 : w.frozen? ⟨a, 1, none⟩ = false := freeOf h
      have f2 : w.frozen? ⟨a, 2, none⟩ = false := freeOf h
      have f3 : w.frozen? ⟨a, 3, none⟩ = false := freeOf h
      have f4 : w.frozen? ⟨a, 4, none⟩ = false := freeOf h
      have f5 : w.frozen? ⟨a, 5, none⟩ = false := freeOf h
      have hlt : a < w.heap.size := lt_of_block h
      have H := Lib.hid h; clear h
      go_enter Try.func81, Try.ntmps81
      go_wp2_with (first
        | (go_at_call 29; refine (ris_any _ _).mono ?_; rintro e w' ⟨rfl, rfl⟩)
        |
          (go_at_call 124; refine (rmay_any _ _ _).mono ?_; rintro e wB ⟨rfl, hB⟩; have HB := Lib.hid hB; have hK : RRt w.heap.size x y wB := at_old hB (by simp) (new_at _ _); have hA : RBk a ⟨b, n, r, t0, x, y0⟩ wB := at_old hB (lt_of_block (old_at _ H.out)) (old_at _ H.out); have d0 := cellOf (o := 0) hK rfl; have d1 := cellOf (o := 1) hK rfl; have e0 := cellOf (o := 0) hA rfl; have e1 := cellOf (o := 1) hA rfl; have e2 := cellOf (o := 2) hA rfl; have e3 := cellOf (o := 3) hA rfl; have e4 := cellOf (o := 4) hA rfl; have e5 := cellOf (o := 5) hA rfl; have g1 : wB.frozen? ⟨a, 1, none⟩ = false := freeOf hA; have g2 : wB.frozen? ⟨a, 2, none⟩ = false := freeOf hA; have g3 : wB.frozen? ⟨a, 3, none⟩ = false := freeOf hA; have g4 : wB.frozen? ⟨a, 4, none⟩ = false := freeOf hA; have g5 : wB.frozen? ⟨a, 5, none⟩ = false := freeOf hA; have gl : a < wB.heap.size := lt_of_block hA; have HK := Lib.hid hK; have HA := Lib.hid hA; clear hK hA hB)
        )
      go_quiet (fail)
      go_wp2_with fail
      go_quiet ((go_at_call 39; exact quiet_more ((rmulRest_any _ _ _ _).mono fun _ _ ⟨x, y⟩ => ⟨x, y.symm⟩)))
      go_wp2_with (first | (go_at_call 33; refine (radd_any _ _ _).mono ?_; rintro e w' ⟨rfl, rfl⟩))
      go_quiet (fail)
      go_wp2_with fail
      go_ret
      have hch := ((Ch.refl a w).alloc (.cells #[.int .i64 x, .int .i64 y] 79 (0, 0))).step HB.out
      have hau : wB.heap[a]? = some (.cells #[.int .i64 b, .int .i64 n, .int .i64 r, .int .i64 t0, .int .i64 x, .int .i64 y0] 134 (0, 0)) := HA.out
      refine ⟨rfl, ?_, ?_⟩
      · show (World.heap _)[a]? = _
        apply at_eq
        · (repeat (first | with_reducible exact hau | with_reducible apply set_at | with_reducible apply drewN_at | with_reducible apply drew_at))
        · rfl
      · (repeat (first | with_reducible exact hch | with_reducible apply Ch.setc | with_reducible apply Ch.alloc | with_reducible apply Ch.drewN | with_reducible apply Ch.drew))
    · have hd' : (x == x0) = false := beq_eq_false_iff_ne.2 hd
      simp only [Int.add_zero] at hA
      try simp only [Int.add_zero]
      have c0 : w.cell? ⟨a, 0, none⟩ = some (.int .i64 b) := cellOf h rfl
      have c1 : w.cell? ⟨a, 1, none⟩ = some (.int .i64 n) := cellOf h rfl
      have c2 : w.cell? ⟨a, 2, none⟩ = some (.int .i64 r) := cellOf h rfl
      have c3 : w.cell? ⟨a, 3, none⟩ = some (.int .i64 t0) := cellOf h rfl
      have c4 : w.cell? ⟨a, 4, none⟩ = some (.int .i64 x0) := cellOf h rfl
      have c5 : w.cell? ⟨a, 5, none⟩ = some (.int .i64 y0) := cellOf h rfl
      have f0 : w.frozen? ⟨a, 0, none⟩ = false := freeOf h
      have f1 : w.frozen? ⟨a, 1, none⟩ = false := freeOf h
      have f2 : w.frozen? ⟨a, 2, none⟩ = false := freeOf h
      have f3 : w.frozen? ⟨a, 3, none⟩ = false := freeOf h
      have f4 : w.frozen? ⟨a, 4, none⟩ = false := freeOf h
      have f5 : w.frozen? ⟨a, 5, none⟩ = false := freeOf h
      have hlt : a < w.heap.size := lt_of_block h
      have H := Lib.hid h; clear h
      go_enter Try.func81, Try.ntmps81
      go_wp2_with (first
        | (go_at_call 29; refine (ris_any _ _).mono ?_; rintro e w' ⟨rfl, rfl⟩)
        |
          (go_at_call 124; refine (rmay_any _ _ _).mono ?_; rintro e wB ⟨rfl, hB⟩; have HB := Lib.hid hB; have hK : RRt w.heap.size x y wB := at_old hB (by simp) (new_at _ _); have hA : RBk a ⟨b, n, r, t0, x0, y0⟩ wB := at_old hB (lt_of_block (old_at _ H.out)) (old_at _ H.out); have d0 := cellOf (o := 0) hK rfl; have d1 := cellOf (o := 1) hK rfl; have e0 := cellOf (o := 0) hA rfl; have e1 := cellOf (o := 1) hA rfl; have e2 := cellOf (o := 2) hA rfl; have e3 := cellOf (o := 3) hA rfl; have e4 := cellOf (o := 4) hA rfl; have e5 := cellOf (o := 5) hA rfl; have g1 : wB.frozen? ⟨a, 1, none⟩ = false := freeOf hA; have g2 : wB.frozen? ⟨a, 2, none⟩ = false := freeOf hA; have g3 : wB.frozen? ⟨a, 3, none⟩ = false := freeOf hA; have g4 : wB.frozen? ⟨a, 4, none⟩ = false := freeOf hA; have g5 : wB.frozen? ⟨a, 5, none⟩ = false := freeOf hA; have gl : a < wB.heap.size := lt_of_block hA; have HK := Lib.hid hK; have HA := Lib.hid hA; clear hK hA hB)
        )
      go_quiet (fail)
      go_wp2_with fail
      go_quiet ((go_at_call 39; exact quiet_more ((rmulRest_any _ _ _ _).mono fun _ _ ⟨x, y⟩ => ⟨x, y.symm⟩)))
      go_wp2_with (first | (go_at_call 33; refine (radd_any _ _ _).mono ?_; rintro e w' ⟨rfl, rfl⟩))
      go_quiet (fail)
      go_wp2_with fail
      go_ret
      have hch := ((Ch.refl a w).alloc (.cells #[.int .i64 x, .int .i64 y] 79 (0, 0))).step HB.out
      have hau : wB.heap[a]? = some (.cells #[.int .i64 b, .int .i64 n, .int .i64 r, .int .i64 t0, .int .i64 x0, .int .i64 y0] 134 (0, 0)) := HA.out
      refine ⟨rfl, ?_, ?_⟩
      · show (World.heap _)[a]? = _
        apply at_eq
        · (repeat (first | with_reducible exact hau | with_reducible apply set_at | with_reducible apply drewN_at | with_reducible apply drew_at))
        · rfl
      · (repeat (first | with_reducible exact hch | with_reducible apply Ch.setc | with_reducible apply Ch.alloc | with_reducible apply Ch.drewN | with_reducible apply Ch.drew))
  · rw [if_neg hf] at hS
    subst hS
    rcases hR with ⟨rfl, rfl, rfl⟩ | ⟨rfl, hd, rfl⟩ | ⟨hd, rfl⟩
    · skip
      have c0 : w.cell? ⟨a, 0, none⟩ = some (.int .i64 b) := cellOf h rfl
      have c1 : w.cell? ⟨a, 1, none⟩ = some (.int .i64 n) := cellOf h rfl
      have c2 : w.cell? ⟨a, 2, none⟩ = some (.int .i64 R) := cellOf h rfl
      have c3 : w.cell? ⟨a, 3, none⟩ = some (.int .i64 t0) := cellOf h rfl
      have c4 : w.cell? ⟨a, 4, none⟩ = some (.int .i64 x) := cellOf h rfl
      have c5 : w.cell? ⟨a, 5, none⟩ = some (.int .i64 y) := cellOf h rfl
      have f0 : w.frozen? ⟨a, 0, none⟩ = false := freeOf h
      have f1 : w.frozen? ⟨a, 1, none⟩ = false := freeOf h
      have f2 : w.frozen? ⟨a, 2, none⟩ = false := freeOf h
      have f3 : w.frozen? ⟨a, 3, none⟩ = false := freeOf h
      have f4 : w.frozen? ⟨a, 4, none⟩ = false := freeOf h
      have f5 : w.frozen? ⟨a, 5, none⟩ = false := freeOf h
      have hlt : a < w.heap.size := lt_of_block h
      have H := Lib.hid h; clear h
      go_enter Try.func81, Try.ntmps81
      go_wp2_with (first
        | (go_at_call 29; refine (ris_any _ _).mono ?_; rintro e w' ⟨rfl, rfl⟩)
        |
          (go_at_call 124; refine (rmay_any _ _ _).mono ?_; rintro e wB ⟨rfl, hB⟩; have HB := Lib.hid hB; have hK : RRt w.heap.size x y wB := at_old hB (by simp) (new_at _ _); have hA : RBk a ⟨b, n, R, t0, x, y⟩ wB := at_old hB (lt_of_block (old_at _ H.out)) (old_at _ H.out); have d0 := cellOf (o := 0) hK rfl; have d1 := cellOf (o := 1) hK rfl; have e0 := cellOf (o := 0) hA rfl; have e1 := cellOf (o := 1) hA rfl; have e2 := cellOf (o := 2) hA rfl; have e3 := cellOf (o := 3) hA rfl; have e4 := cellOf (o := 4) hA rfl; have e5 := cellOf (o := 5) hA rfl; have g1 : wB.frozen? ⟨a, 1, none⟩ = false := freeOf hA; have g2 : wB.frozen? ⟨a, 2, none⟩ = false := freeOf hA; have g3 : wB.frozen? ⟨a, 3, none⟩ = false := freeOf hA; have g4 : wB.frozen? ⟨a, 4, none⟩ = false := freeOf hA; have g5 : wB.frozen? ⟨a, 5, none⟩ = false := freeOf hA; have gl : a < wB.heap.size := lt_of_block hA; have HK := Lib.hid hK; have HA := Lib.hid hA; clear hK hA hB)
        )
      go_quiet (fail)
      go_wp2_with fail
      go_quiet ((go_at_call 39; exact quiet_more ((rmulRest_any _ _ _ _).mono fun _ _ ⟨x, y⟩ => ⟨x, y.symm⟩)))
      go_wp2_with (first | (go_at_call 33; refine (radd_any _ _ _).mono ?_; rintro e w' ⟨rfl, rfl⟩))
      go_quiet (fail)
      go_wp2_with fail
      go_ret
      have hch := ((Ch.refl a w).alloc (.cells #[.int .i64 x, .int .i64 y] 79 (0, 0))).step HB.out
      have hau : wB.heap[a]? = some (.cells #[.int .i64 b, .int .i64 n, .int .i64 R, .int .i64 t0, .int .i64 x, .int .i64 y] 134 (0, 0)) := HA.out
      refine ⟨rfl, ?_, ?_⟩
      · show (World.heap _)[a]? = _
        apply at_eq
        · (repeat (first | with_reducible exact hau | with_reducible apply set_at | with_reducible apply drewN_at | with_reducible apply drew_at))
        · rfl
      · (repeat (first | with_reducible exact hch | with_reducible apply Ch.setc | with_reducible apply Ch.alloc | with_reducible apply Ch.drewN | with_reducible apply Ch.drew))
    · have hd' : (y == y0) = false := beq_eq_false_iff_ne.2 hd
      simp only [Int.add_zero] at hA
      try simp only [Int.add_zero]
      have c0 : w.cell? ⟨a, 0, none⟩ = some (.int .i64 b) := cellOf h rfl
      have c1 : w.cell? ⟨a, 1, none⟩ = some (.int .i64 n) := cellOf h rfl
      have c2 : w.cell? ⟨a, 2, none⟩ = some (.int .i64 r) := cellOf h rfl
      have c3 : w.cell? ⟨a, 3, none⟩ = some (.int .i64 t0) := cellOf h rfl
      have c4 : w.cell? ⟨a, 4, none⟩ = some (.int .i64 x) := cellOf h rfl
      have c5 : w.cell? ⟨a, 5, none⟩ = some (.int .i64 y0) := cellOf h rfl
      have f0 : w.frozen? ⟨a, 0, none⟩ = false := freeOf h
      have f1 : w.frozen? ⟨a, 1, none⟩ = false := freeOf h
      have f2 : w.frozen? ⟨a, 2, none⟩ = false := freeOf h
      have f3 : w.frozen? ⟨a, 3, none⟩ = false := freeOf h
      have f4 : w.frozen? ⟨a, 4, none⟩ = false := freeOf h
      have f5 : w.frozen? ⟨a, 5, none⟩ = false := freeOf h
      have hlt : a < w.heap.size := lt_of_block h
      have H := Lib.hid h; clear h
      go_enter Try.func81, Try.ntmps81
      go_wp2_with (first
        | (go_at_call 29; refine (ris_any _ _).mono ?_; rintro e w' ⟨rfl, rfl⟩)
        |
          (go_at_call 124; refine (rmay_any _ _ _).mono ?_; rintro e wB ⟨rfl, hB⟩; have HB := Lib.hid hB; have hK : RRt w.heap.size x y wB := at_old hB (by simp) (new_at _ _); have hA : RBk a ⟨b, n, r, t0, x, y0⟩ wB := at_old hB (lt_of_block (old_at _ H.out)) (old_at _ H.out); have d0 := cellOf (o := 0) hK rfl; have d1 := cellOf (o := 1) hK rfl; have e0 := cellOf (o := 0) hA rfl; have e1 := cellOf (o := 1) hA rfl; have e2 := cellOf (o := 2) hA rfl; have e3 := cellOf (o := 3) hA rfl; have e4 := cellOf (o := 4) hA rfl; have e5 := cellOf (o := 5) hA rfl; have g1 : wB.frozen? ⟨a, 1, none⟩ = false := freeOf hA; have g2 : wB.frozen? ⟨a, 2, none⟩ = false := freeOf hA; have g3 : wB.frozen? ⟨a, 3, none⟩ = false := freeOf hA; have g4 : wB.frozen? ⟨a, 4, none⟩ = false := freeOf hA; have g5 : wB.frozen? ⟨a, 5, none⟩ = false := freeOf hA; have gl : a < wB.heap.size := lt_of_block hA; have HK := Lib.hid hK; have HA := Lib.hid hA; clear hK hA hB)
        )
      go_quiet (fail)
      go_wp2_with fail
      go_quiet ((go_at_call 39; exact quiet_more ((rmulRest_any _ _ _ _).mono fun _ _ ⟨x, y⟩ => ⟨x, y.symm⟩)))
      go_wp2_with (first | (go_at_call 33; refine (radd_any _ _ _).mono ?_; rintro e w' ⟨rfl, rfl⟩))
      go_quiet (fail)
      go_wp2_with fail
      go_ret
      have hch := ((Ch.refl a w).alloc (.cells #[.int .i64 x, .int .i64 y] 79 (0, 0))).step HB.out
      have hau : wB.heap[a]? = some (.cells #[.int .i64 b, .int .i64 n, .int .i64 r, .int .i64 t0, .int .i64 x, .int .i64 y0] 134 (0, 0)) := HA.out
      refine ⟨rfl, ?_, ?_⟩
      · show (World.heap _)[a]? = _
        apply at_eq
        · (repeat (first | with_reducible exact hau | with_reducible apply set_at | with_reducible apply drewN_at | with_reducible apply drew_at))
        · rfl
      · (repeat (first | with_reducible exact hch | with_reducible apply Ch.setc | with_reducible apply Ch.alloc | with_reducible apply Ch.drewN | with_reducible apply Ch.drew))
    · have hd' : (x == x0) = false := beq_eq_false_iff_ne.2 hd
      simp only [Int.add_zero] at hA
      try simp only [Int.add_zero]
      have c0 : w.cell? ⟨a, 0, none⟩ = some (.int .i64 b) := cellOf h rfl
      have c1 : w.cell? ⟨a, 1, none⟩ = some (.int .i64 n) := cellOf h rfl
      have c2 : w.cell? ⟨a, 2, none⟩ = some (.int .i64 r) := cellOf h rfl
      have c3 : w.cell? ⟨a, 3, none⟩ = some (.int .i64 t0) := cellOf h rfl
      have c4 : w.cell? ⟨a, 4, none⟩ = some (.int .i64 x0) := cellOf h rfl
      have c5 : w.cell? ⟨a, 5, none⟩ = some (.int .i64 y0) := cellOf h rfl
      have f0 : w.frozen? ⟨a, 0, none⟩ = false := freeOf h
      have f1 : w.frozen? ⟨a, 1, none⟩ = false := freeOf h
      have f2 : w.frozen? ⟨a, 2, none⟩ = false := freeOf h
      have f3 : w.frozen? ⟨a, 3, none⟩ = false := freeOf h
      have f4 : w.frozen? ⟨a, 4, none⟩ = false := freeOf h
      have f5 : w.frozen? ⟨a, 5, none⟩ = false := freeOf h
      have hlt : a < w.heap.size := lt_of_block h
      have H := Lib.hid h; clear h
      go_enter Try.func81, Try.ntmps81
      go_wp2_with (first
        | (go_at_call 29; refine (ris_any _ _).mono ?_; rintro e w' ⟨rfl, rfl⟩)
        |
          (go_at_call 124; refine (rmay_any _ _ _).mono ?_; rintro e wB ⟨rfl, hB⟩; have HB := Lib.hid hB; have hK : RRt w.heap.size x y wB := at_old hB (by simp) (new_at _ _); have hA : RBk a ⟨b, n, r, t0, x0, y0⟩ wB := at_old hB (lt_of_block (old_at _ H.out)) (old_at _ H.out); have d0 := cellOf (o := 0) hK rfl; have d1 := cellOf (o := 1) hK rfl; have e0 := cellOf (o := 0) hA rfl; have e1 := cellOf (o := 1) hA rfl; have e2 := cellOf (o := 2) hA rfl; have e3 := cellOf (o := 3) hA rfl; have e4 := cellOf (o := 4) hA rfl; have e5 := cellOf (o := 5) hA rfl; have g1 : wB.frozen? ⟨a, 1, none⟩ = false := freeOf hA; have g2 : wB.frozen? ⟨a, 2, none⟩ = false := freeOf hA; have g3 : wB.frozen? ⟨a, 3, none⟩ = false := freeOf hA; have g4 : wB.frozen? ⟨a, 4, none⟩ = false := freeOf hA; have g5 : wB.frozen? ⟨a, 5, none⟩ = false := freeOf hA; have gl : a < wB.heap.size := lt_of_block hA; have HK := Lib.hid hK; have HA := Lib.hid hA; clear hK hA hB)
        )
      go_quiet (fail)
      go_wp2_with fail
      go_quiet ((go_at_call 39; exact quiet_more ((rmulRest_any _ _ _ _).mono fun _ _ ⟨x, y⟩ => ⟨x, y.symm⟩)))
      go_wp2_with (first | (go_at_call 33; refine (radd_any _ _ _).mono ?_; rintro e w' ⟨rfl, rfl⟩))
      go_quiet (fail)
      go_wp2_with fail
      go_ret
      have hch := ((Ch.refl a w).alloc (.cells #[.int .i64 x, .int .i64 y] 79 (0, 0))).step HB.out
      have hau : wB.heap[a]? = some (.cells #[.int .i64 b, .int .i64 n, .int .i64 r, .int .i64 t0, .int .i64 x0, .int .i64 y0] 134 (0, 0)) := HA.out
      refine ⟨rfl, ?_, ?_⟩
      · show (World.heap _)[a]? = _
        apply at_eq
        · (repeat (first | with_reducible exact hau | with_reducible apply set_at | with_reducible apply drewN_at | with_reducible apply drew_at))
        · rfl
      · (repeat (first | with_reducible exact hch | with_reducible apply Ch.setc | with_reducible apply Ch.alloc | with_reducible apply Ch.drewN | with_reducible apply Ch.drew))
theorem rbFill_any (a : Nat) (s : BS) (t x y : Int) (w : World) (h : RBk a s w) (hs : s.Ok) :
    Calls Try.prog 81 #[.pointer (some ⟨a, 0, none⟩), .int .i64 t, .agg #[.int .i64 x, .int .i64 y]] w fun e w' => e = .returned (.int .i64 (s.fillE t x y)) ∧ RBk a (s.filled t x y) w' ∧ Ch a w w' := by
  by_cases he : s.fillE t x y = 0
  · obtain ⟨hi, hm, hb⟩ := BS.fillE_zero he
    obtain ⟨_, ⟨y0, y1⟩⟩ := may_true hm
    rw [BS.filled_yes he, he]
    refine rbFill_slow a s t x y (s.keep x y) w h hs hi hm hb ?_ (BS.keep_lo hs x y) (BS.keep_hi hs y0) _ rfl _ ?_
    · unfold BS.keep
      by_cases e1 : x = s.num
      · by_cases e2 : y = s.den
        · exact Or.inl ⟨e1, e2, if_pos ⟨e1, e2⟩⟩
        · exact Or.inr (Or.inl ⟨e1, e2, if_neg (fun g => e2 g.2)⟩)
      · exact Or.inr (Or.inr ⟨e1, if_neg (fun g => e1 g.1)⟩)
    · rw [BS.fill_def, BS.more_eq hs t y0 y1, BS.part_eq hs t y0 y1]; rfl
  · rw [BS.filled_no he]; exact rbFill_no a s t x y w h hs he

end Go.Proofs.Ytcholjdbmmgakaa
