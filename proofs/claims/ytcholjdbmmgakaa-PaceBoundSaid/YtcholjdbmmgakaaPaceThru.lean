/- sounderlaw14.through: as many bytes as rates let through, piece by piece. -/
import Derived.Test.YtcholjdbmmgakaaPacePlay
namespace Go.Proofs.Ytcholjdbmmgakaa
open Go.RowKit Sat

/-- Pieces whose numbers are small, one behind the other. -/
structure Zok (Z : List Int) (m : Nat) : Prop where
  zf : ∀ i, i < m → 0 ≤ Z.getD (i * 3) 0 ∧ Z.getD (i * 3) 0 ≤ 68719476736
  zn : ∀ i, i < m → 0 ≤ Z.getD (i * 3 + 1) 0 ∧ Z.getD (i * 3 + 1) 0 ≤ 5242880
  zd : ∀ i, i < m → 1 ≤ Z.getD (i * 3 + 2) 0 ∧ Z.getD (i * 3 + 2) 0 ≤ 4294967296
  zs : ∀ i, i + 1 < m → Z.getD (i * 3) 0 ≤ Z.getD ((i + 1) * 3) 0
theorem ceil_le {P y : Int} (h0 : 0 ≤ P) (hy : 1 ≤ y) : (P + y - 1) / y ≤ P := by
  have h1 : P * 1 ≤ P * y := Int.mul_le_mul_of_nonneg_left hy h0
  apply Int.lt_add_one_iff.1
  apply Int.ediv_lt_of_lt_mul (by omega)
  rw [Int.add_mul]; omega
theorem seg_bd {x y a b f g : Int} (x0 : 0 ≤ x) (x1 : x ≤ 5242880) (hy : 1 ≤ y) (hf : f ≤ a) (hb : b ≤ g) (hfg : f ≤ g) : 0 ≤ seg x y a b ∧ seg x y a b ≤ (g - f) * 5242880 := by
  by_cases h : a < b
  · rw [seg_le (by omega) (by omega)]
    have p0 : 0 ≤ (b - a) * x := Int.mul_nonneg (by omega) x0
    have p1 : (b - a) * x ≤ (g - f) * 5242880 := Int.mul_le_mul (by omega) x1 x0 (by omega)
    have := ceil_le p0 hy
    exact ⟨Int.ediv_nonneg (by omega) (by omega), by omega⟩
  · rw [seg_no (by omega)]; omega
theorem thrI_bd {Z : List Int} {m : Nat} (h : Zok Z m) (a b : Int) : ∀ i, i < m → 0 ≤ thrI Z m a b i ∧ thrI Z m a b i ≤ Z.getD (i * 3) 0 * 5242880
  | 0, h0 => by
    have := (h.zf 0 h0).1
    simp only [thrI]; omega
  | i + 1, h1 => by
    have ih := thrI_bd h a b i (by omega)
    have hs := h.zs i h1
    have hn := h.zn i (by omega)
    have hd := h.zd i (by omega)
    have sb := seg_bd (x := Z.getD (i * 3 + 1) 0) (y := Z.getD (i * 3 + 2) 0) (a := max a (Z.getD (i * 3) 0)) (b := min b (Z.getD ((i + 1) * 3) 0)) (f := Z.getD (i * 3) 0) (g := Z.getD ((i + 1) * 3) 0) hn.1 hn.2 hd.1 (by omega) (by omega) hs
    have e : share Z m a b i = seg (Z.getD (i * 3 + 1) 0) (Z.getD (i * 3 + 2) 0) (max a (Z.getD (i * 3) 0)) (min b (Z.getD ((i + 1) * 3) 0)) := by unfold share; rw [if_pos h1]
    show 0 ≤ thrI Z m a b i + share Z m a b i ∧ thrI Z m a b i + share Z m a b i ≤ _
    rw [e]; omega

set_option maxRecDepth 100000 in
set_option maxHeartbeats 3000000 in
theorem thru_any (gb cap m : Nat) (Z : List Int) (a b : Int) (w : World) (hm : m ≤ 41) (hZ : Zok Z m) (hc : ∀ j, j < m * 3 → w.cell? ⟨gb, j, none⟩ = some (.int .i64 (Z.getD j 0))) (a0 : 0 ≤ a) (a1 : a ≤ 68719476736) (b0 : 0 ≤ b) (b1 : b ≤ 68719476736) :
    Calls Try.prog 100 #[.slice (some ⟨gb, 0, none⟩) m cap, .int .i64 a, .int .i64 b] w fun e w' => e = .returned (.int .i64 (thr Z m a b)) ∧ ∃ n, w' = w.drewN n := by
  have HC := Lib.hid hc; clear hc
  have HZ := Lib.hid hZ; clear hZ
  go_enter Try.func100, Try.ntmps100
  go_wp2_with fail
  go_loopw [7, 8] (fun n iv wr => ∃ (i k : Nat), i ≤ m ∧ n = .int .i64 (thrI Z m a b i) ∧ iv = .int .i64 i ∧ wr = w.drewN k) (fun _ i _ => (m - intOf i).toNat)
  case atStart => exact ⟨0, 0, by omega, by first | rfl | trivial, by first | rfl | trivial, by first | rfl | trivial⟩
  case round =>
    obtain ⟨i, k, hi, rfl, rfl, rfl⟩ := hrel
    by_cases hlt : i < m
    · have c0 := HC.out (i * 3) (by omega); have c1 := HC.out (i * 3 + 1) (by omega); have c2 := HC.out (i * 3 + 2) (by omega)
      have f := HZ.out.zf i hlt; have hn := HZ.out.zn i hlt; have hd := HZ.out.zd i hlt
      have tb := thrI_bd HZ.out a b i hlt
      have q0 : (0 : Int) ≤ (i : Int) := by omega
      have q1 : (i : Int) < (m : Int) := by omega
      have TS : Hid (thrI Z m a b (i + 1) = thrI Z m a b i + share Z m a b i) := Lib.hid rfl
      have SH := Lib.hid (show share Z m a b i = seg (Z.getD (i * 3 + 1) 0) (Z.getD (i * 3 + 2) 0) (max a (Z.getD (i * 3) 0)) (if i + 1 < m then min b (Z.getD ((i + 1) * 3) 0) else b) from rfl)
      by_cases hnx : i + 1 < m
      · have c3 := HC.out ((i + 1) * 3) (by omega)
        have f1 := HZ.out.zf (i + 1) hnx
        have SH2 := SH.out
        rw [if_pos hnx] at SH2
        clear SH
        generalize Z.getD (i * 3) 0 = g0 at *
        generalize Z.getD (i * 3 + 1) 0 = x at *
        generalize Z.getD (i * 3 + 2) 0 = y at *
        generalize Z.getD ((i + 1) * 3) 0 = g1 at *
        obtain ⟨lo, hlo⟩ : ∃ v, max a g0 = v := ⟨_, rfl⟩
        obtain ⟨hh, hhi⟩ : ∃ v, min b g1 = v := ⟨_, rfl⟩
        rw [hlo, hhi] at SH2
        have SH3 := Lib.hid SH2
        clear SH2
        have q2 : (i : Int) + 1 < (m : Int) := by omega
        by_cases hs : lo < hh
        · skip
          have P0 : 0 ≤ (hh - lo) * x := Int.mul_nonneg (by omega) (by omega)
          have P1 : (hh - lo) * x ≤ 68719476736 * 5242880 := Int.mul_le_mul (by omega) (by omega) (by omega) (by omega)
          have sl := seg_le (x := x) (y := y) (a := lo) (b := hh) (by omega) (by omega)
          have cl := ceil_le P0 (by omega : 1 ≤ y)
          have cl0 : 0 ≤ ((hh - lo) * x + y - 1) / y := Int.ediv_nonneg (by omega) (by omega)
          have w1 := wrap_i64 (hh - lo) (by omega) (by omega)
          have w2 := wrap_i64 ((hh - lo) * x) (by omega) (by omega)
          have w3 := wrap_i64 ((hh - lo) * x + y) (by omega) (by omega)
          have w4 := wrap_i64 ((hh - lo) * x + y - 1) (by omega) (by omega)
          have w5 := wrap_i64 (((hh - lo) * x + y - 1) / y) (by omega) (by omega)
          have w6 := wrap_i64 (thrI Z m a b i + ((hh - lo) * x + y - 1) / y) (by omega) (by omega)
          have SL := Lib.hid sl
          clear sl
          have E := Lib.hid (show thrI Z m a b (i + 1) = thrI Z m a b i + ((hh - lo) * x + y - 1) / y by rw [TS.out, SH3.out, SL.out])
          go_wp2_with fail
          go_quiet (fail)
          go_wp2_with fail
          go_roundw
          case rel => exact ⟨i + 1, _, by omega, by rw [E.out], by go_num, rfl⟩
          case measure => simp [intOf]; omega
        · skip
          have e0 := seg_no (x := x) (y := y) (a := lo) (b := hh) (by omega)
          have E := Lib.hid (show thrI Z m a b (i + 1) = thrI Z m a b i by rw [TS.out, SH3.out, e0, Int.add_zero])
          clear e0
          go_wp2_with fail
          go_roundw
          case rel => exact ⟨i + 1, k, by omega, by rw [E.out], by go_num, by first | rfl | trivial⟩
          case measure => simp [intOf]; omega
      · have SH2 := SH.out
        rw [if_neg hnx] at SH2
        clear SH
        generalize Z.getD (i * 3) 0 = g0 at *
        generalize Z.getD (i * 3 + 1) 0 = x at *
        generalize Z.getD (i * 3 + 2) 0 = y at *
        obtain ⟨lo, hlo⟩ : ∃ v, max a g0 = v := ⟨_, rfl⟩
        rw [hlo] at SH2
        have SH3 := Lib.hid SH2
        clear SH2
        have q2 : ¬ (i : Int) + 1 < (m : Int) := by omega
        by_cases hs : lo < b
        · skip
          have P0 : 0 ≤ (b - lo) * x := Int.mul_nonneg (by omega) (by omega)
          have P1 : (b - lo) * x ≤ 68719476736 * 5242880 := Int.mul_le_mul (by omega) (by omega) (by omega) (by omega)
          have sl := seg_le (x := x) (y := y) (a := lo) (b := b) (by omega) (by omega)
          have cl := ceil_le P0 (by omega : 1 ≤ y)
          have cl0 : 0 ≤ ((b - lo) * x + y - 1) / y := Int.ediv_nonneg (by omega) (by omega)
          have w1 := wrap_i64 (b - lo) (by omega) (by omega)
          have w2 := wrap_i64 ((b - lo) * x) (by omega) (by omega)
          have w3 := wrap_i64 ((b - lo) * x + y) (by omega) (by omega)
          have w4 := wrap_i64 ((b - lo) * x + y - 1) (by omega) (by omega)
          have w5 := wrap_i64 (((b - lo) * x + y - 1) / y) (by omega) (by omega)
          have w6 := wrap_i64 (thrI Z m a b i + ((b - lo) * x + y - 1) / y) (by omega) (by omega)
          have SL := Lib.hid sl
          clear sl
          have E := Lib.hid (show thrI Z m a b (i + 1) = thrI Z m a b i + ((b - lo) * x + y - 1) / y by rw [TS.out, SH3.out, SL.out])
          go_wp2_with fail
          go_quiet (fail)
          go_wp2_with fail
          go_roundw
          case rel => exact ⟨i + 1, _, by omega, by rw [E.out], by go_num, rfl⟩
          case measure => simp [intOf]; omega
        · skip
          have e0 := seg_no (x := x) (y := y) (a := lo) (b := b) (by omega)
          have E := Lib.hid (show thrI Z m a b (i + 1) = thrI Z m a b i by rw [TS.out, SH3.out, e0, Int.add_zero])
          clear e0
          go_wp2_with fail
          go_roundw
          case rel => exact ⟨i + 1, k, by omega, by rw [E.out], by go_num, by first | rfl | trivial⟩
          case measure => simp [intOf]; omega
    · have e : i = m := by omega
      subst e
      have q1 : ¬ (i : Int) < (i : Int) := by omega
      go_wp2_with fail
      go_ret
      exact ⟨rfl, k, rfl⟩
theorem thr_bd {Z : List Int} {m : Nat} (h : Zok Z m) {a b : Int} (b1 : b ≤ 68719476736) : 0 ≤ thr Z m a b ∧ thr Z m a b ≤ 68719476736 * 5242880 * 2 := by
  unfold thr
  rcases m with _ | j
  · simp [thrI]
  · have ih := thrI_bd h a b j (by omega)
    have hf := h.zf j (by omega); have hn := h.zn j (by omega); have hd := h.zd j (by omega)
    have sb := seg_bd (x := Z.getD (j * 3 + 1) 0) (y := Z.getD (j * 3 + 2) 0) (a := max a (Z.getD (j * 3) 0)) (b := b) (f := Z.getD (j * 3) 0) (g := max b (Z.getD (j * 3) 0)) hn.1 hn.2 hd.1 (by omega) (by omega) (by omega)
    have e : share Z (j + 1) a b j = seg (Z.getD (j * 3 + 1) 0) (Z.getD (j * 3 + 2) 0) (max a (Z.getD (j * 3) 0)) b := by unfold share; rw [if_neg (by omega)]
    show 0 ≤ thrI Z (j + 1) a b j + share Z (j + 1) a b j ∧ thrI Z (j + 1) a b j + share Z (j + 1) a b j ≤ _
    rw [e]; omega

end Go.Proofs.Ytcholjdbmmgakaa
