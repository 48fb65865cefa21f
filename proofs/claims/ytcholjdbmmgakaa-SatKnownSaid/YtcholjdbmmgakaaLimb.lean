/- sounderlaw01.limbs and less: a product in four parts; which of two is less. -/
import Derived.Test.YtcholjdbmmgakaaKit
import Derived.Test.YtcholjdbmmgakaaLimbMath
import Derived.BigQuiet
import Derived.Deep.QuietTactic
namespace Go.Proofs.Ytcholjdbmmgakaa
open Go.RowKit Sat

def limbs (n : Int) : Value := .agg #[.int .i64 (d0 n), .int .i64 (d1 n), .int .i64 (d2 n), .int .i64 (d3 n)]

set_option maxHeartbeats 400000 in
theorem limbs_any (a b : Int) (w : World) (a0 : 0 ≤ a) (a1 : a ≤ 9007199254740992) (b0 : 0 ≤ b) (b1 : b ≤ 9007199254740992) :
    Calls Try.prog 45 #[.int .i64 a, .int .i64 b] w fun e w' => e = .returned (limbs (a * b)) ∧ w' = w.alloc (.cells #[.int .i64 (d0 (a * b)), .int .i64 (d1 (a * b)), .int .i64 (d2 (a * b)), .int .i64 (d3 (a * b))] 30 (0, 0)) := by
  obtain ⟨x0, x1, y0, y1, X, Y, Z, W, hp⟩ := prods a b a0 a1 b0 b1
  obtain ⟨g0, g1, g2, g3⟩ := digits hp
  unfold limbs
  rw [← g0, ← g1, ← g2, ← g3]
  clear g0 g1 g2 g3
  obtain ⟨ex0, ex1, ey0, ey1, eX, eY, eZ, eW, ⟨_, _⟩, ⟨_, _⟩, ⟨_, _⟩, ⟨_, _⟩, ⟨_, _⟩, ⟨_, _⟩, ⟨_, _⟩, ⟨_, _⟩, _⟩ := hp
  go_enter Try.func45, Try.ntmps45
  go_wp2
  refine bodyPost_ret (v := .agg #[.int .i64 (X % 134217728), .int .i64 ((Y + Z + X / 134217728) % 134217728), .int .i64 ((W + (Y + Z + X / 134217728) / 134217728) % 134217728), .int .i64 ((W + (Y + Z + X / 134217728) / 134217728) / 134217728)]) ?_ rfl ⟨rfl, ?_⟩
  · simp [results, Try.results45, go_sem]
  · rfl

/-- Of the parts from the j-th one on each is the same. -/
def LEq (n m : Int) (j : Nat) : Prop := (j ≤ 3 → d3 n = d3 m) ∧ (j ≤ 2 → d2 n = d2 m) ∧ (j ≤ 1 → d1 n = d1 m) ∧ (j ≤ 0 → d0 n = d0 m)

set_option maxHeartbeats 1000000 in
theorem less_any (n m : Int) (w : World) :
    Calls Try.prog 46 #[limbs n, limbs m] w fun e w' => e = .returned (.bool (decide (n < m))) ∧ Below w.heap.size w w' := by
  unfold limbs
  go_enter Try.func46, Try.ntmps46
  go_wp2
  go_loopw [5] (fun i wr => ∃ (j k : Nat), j ≤ 4 ∧ i = .int .i64 ((j : Int) - 1) ∧ wr = ((w.alloc (.cells #[.int .i64 (d0 n), .int .i64 (d1 n), .int .i64 (d2 n), .int .i64 (d3 n)] 30 (0, 0))).alloc (.cells #[.int .i64 (d0 m), .int .i64 (d1 m), .int .i64 (d2 m), .int .i64 (d3 m)] 30 (0, 0))).drewN k ∧ LEq n m j) (fun i _ => (intOf i + 1).toNat)
  case atStart => exact ⟨4, 0, by omega, rfl, rfl, ⟨by omega, by omega, by omega, by omega⟩⟩
  case round =>
    obtain ⟨j, k, hj, rfl, rfl, heq⟩ := hrel
    have he := Lib.hid heq; clear heq
    have hc : j = 4 ∨ j = 3 ∨ j = 2 ∨ j = 1 ∨ j = 0 := by omega
    rcases hc with rfl | rfl | rfl | rfl | rfl
    · by_cases h : d3 n = d3 m
      · have hb : (d3 n != d3 m) = false := by simpa using h
        have HN : Hid (LEq n m 3) := by
          obtain ⟨p3, p2, p1, p0⟩ := he.out
          exact ⟨fun _ => h, fun _ => by omega, fun _ => by omega, fun _ => by omega⟩
        clear h
        go_wp2
        go_quiet (fail)
        go_wp2
        go_roundw
        case rel => exact ⟨3, _, by omega, rfl, rfl, HN.out⟩
        case measure => simp [intOf]
      · have hb : (d3 n != d3 m) = true := by simpa using h
        have HL := Lib.hid (less3 h)
        clear h
        go_wp2
        go_quiet (fail)
        go_wp2
        go_quiet (fail)
        go_wp2
        go_ret
        exact ⟨ret_bool HL.out, below_drewN (below_drewN (below_drewN ((((Below.refl _ _).alloc (Nat.le_refl _) _).alloc (by simp) _)) _) _) _⟩
    · by_cases h : d2 n = d2 m
      · have hb : (d2 n != d2 m) = false := by simpa using h
        have HN : Hid (LEq n m 2) := by
          obtain ⟨p3, p2, p1, p0⟩ := he.out
          exact ⟨fun _ => p3 (by omega), fun _ => h, fun _ => by omega, fun _ => by omega⟩
        clear h
        go_wp2
        go_quiet (fail)
        go_wp2
        go_roundw
        case rel => exact ⟨2, _, by omega, rfl, rfl, HN.out⟩
        case measure => simp [intOf]
      · have hb : (d2 n != d2 m) = true := by simpa using h
        have HL := Lib.hid (less2 (he.out.1 (by omega)) h)
        clear h
        go_wp2
        go_quiet (fail)
        go_wp2
        go_quiet (fail)
        go_wp2
        go_ret
        exact ⟨ret_bool HL.out, below_drewN (below_drewN (below_drewN ((((Below.refl _ _).alloc (Nat.le_refl _) _).alloc (by simp) _)) _) _) _⟩
    · by_cases h : d1 n = d1 m
      · have hb : (d1 n != d1 m) = false := by simpa using h
        have HN : Hid (LEq n m 1) := by
          obtain ⟨p3, p2, p1, p0⟩ := he.out
          exact ⟨fun _ => p3 (by omega), fun _ => p2 (by omega), fun _ => h, fun _ => by omega⟩
        clear h
        go_wp2
        go_quiet (fail)
        go_wp2
        go_roundw
        case rel => exact ⟨1, _, by omega, rfl, rfl, HN.out⟩
        case measure => simp [intOf]
      · have hb : (d1 n != d1 m) = true := by simpa using h
        have HL := Lib.hid (less1 (he.out.1 (by omega)) (he.out.2.1 (by omega)) h)
        clear h
        go_wp2
        go_quiet (fail)
        go_wp2
        go_quiet (fail)
        go_wp2
        go_ret
        exact ⟨ret_bool HL.out, below_drewN (below_drewN (below_drewN ((((Below.refl _ _).alloc (Nat.le_refl _) _).alloc (by simp) _)) _) _) _⟩
    · by_cases h : d0 n = d0 m
      · have hb : (d0 n != d0 m) = false := by simpa using h
        have HN : Hid (LEq n m 0) := by
          obtain ⟨p3, p2, p1, p0⟩ := he.out
          exact ⟨fun _ => p3 (by omega), fun _ => p2 (by omega), fun _ => p1 (by omega), fun _ => h⟩
        clear h
        go_wp2
        go_quiet (fail)
        go_wp2
        go_roundw
        case rel => exact ⟨0, _, by omega, rfl, rfl, HN.out⟩
        case measure => simp [intOf]
      · have hb : (d0 n != d0 m) = true := by simpa using h
        have HL := Lib.hid (less0 (he.out.1 (by omega)) (he.out.2.1 (by omega)) (he.out.2.2.1 (by omega)))
        clear h
        go_wp2
        go_quiet (fail)
        go_wp2
        go_quiet (fail)
        go_wp2
        go_ret
        exact ⟨ret_bool HL.out, below_drewN (below_drewN (below_drewN ((((Below.refl _ _).alloc (Nat.le_refl _) _).alloc (by simp) _)) _) _) _⟩
    · have hn : n = m := digits_eq.1 ⟨he.out.2.2.2 (by omega), he.out.2.2.1 (by omega), he.out.2.1 (by omega), he.out.1 (by omega)⟩
      have HL := Lib.hid hn; clear hn
      go_wp2
      go_ret
      exact ⟨ret_bool (by simp [HL.out]), below_drewN ((((Below.refl _ _).alloc (Nat.le_refl _) _).alloc (by simp) _)) _⟩

theorem limbs_at (a b : Int) (w : World) (hb : 0 ≤ a ∧ a ≤ 9007199254740992 ∧ 0 ≤ b ∧ b ≤ 9007199254740992) :
    Calls Try.prog 45 #[.int .i64 a, .int .i64 b] w fun e w' => e = .returned (.agg #[.int .i64 (d0 (a * b)), .int .i64 (d1 (a * b)), .int .i64 (d2 (a * b)), .int .i64 (d3 (a * b))]) ∧ w' = w.alloc (.cells #[.int .i64 (d0 (a * b)), .int .i64 (d1 (a * b)), .int .i64 (d2 (a * b)), .int .i64 (d3 (a * b))] 30 (0, 0)) :=
  (limbs_any a b w hb.1 hb.2.1 hb.2.2.1 hb.2.2.2).mono fun _ _ ⟨he, hw⟩ => ⟨he, hw⟩
theorem less_gr (n m : Int) {B : Nat} {w0 w : World} (h : Gr B w0 w) :
    Calls Try.prog 46 #[.agg #[.int .i64 (d0 n), .int .i64 (d1 n), .int .i64 (d2 n), .int .i64 (d3 n)], .agg #[.int .i64 (d0 m), .int .i64 (d1 m), .int .i64 (d2 m), .int .i64 (d3 m)]] w fun e w' => e = .returned (.bool (decide (n < m))) ∧ Gr B w0 w' ∧ Below w.heap.size w w' :=
  (less_any n m w).mono fun _ _ ⟨he, hw⟩ => ⟨he, h.step hw, hw⟩
theorem digits_ne {n m : Int} (h : n ≠ m) : ((d0 n == d0 m) && ((d1 n == d1 m) && ((d2 n == d2 m) && (d3 n == d3 m)))) = false := by
  rw [Bool.eq_false_iff]
  intro g
  simp only [Bool.and_eq_true, beq_iff_eq] at g
  exact h (digits_eq.1 ⟨g.1, g.2.1, g.2.2.1, g.2.2.2⟩)
theorem part_int (cs : Array Value) (i : Nat) (v : Value) (w : World) (h : cs[i]? = some v) : (part 3 cs i).run Try.prog w = .ok v w := by
  simp only [part, Sem.run_bind]
  simp [go_sem, h]
/-- Two arrays of four are the same. -/
theorem equalIn_arr4 (a0 a1 a2 a3 b0 b1 b2 b3 : Int) (w : World) :
    (Op.equalIn 10000 30 (.agg #[.int .i64 a0, .int .i64 a1, .int .i64 a2, .int .i64 a3]) (.agg #[.int .i64 b0, .int .i64 b1, .int .i64 b2, .int .i64 b3])).run Try.prog w = .ok ((a0 == b0) && ((a1 == b1) && ((a2 == b2) && (a3 == b3)))) w := by
  show (Op.equalIn (9999 + 1) 30 _ _).run Try.prog w = _
  rw [Op.equalIn]
  have hs : (sizeOf 3).run Try.prog w = .ok 1 w := by simp [go_sem]
  have e : ∀ a b : Int, (Op.equalIn 9999 3 (.int .i64 a) (.int .i64 b)).run Try.prog w = .ok (a == b) w := fun a b => run_equalIn_int w 9998 3 .i64 .i64 a b Try.underlying3
  simp only [Sem.run_bind, run_underlying Try.underlying30, Result.andThen_ok, hs, Std.Legacy.Range.forIn_eq_forIn_range', Std.Legacy.Range.size]
  simp only [List.range', List.forIn_cons, List.forIn_nil, Sem.run_bind]
  rw [part_int _ _ (.int .i64 a0) w rfl]; simp only [Result.andThen_ok]
  rw [part_int _ _ (.int .i64 b0) w rfl]; simp only [Result.andThen_ok, e]
  cases h0 : (a0 == b0)
  · simp [Sem.run_pure]
  simp only [Bool.not_true, Bool.false_eq_true, if_false, Sem.run_pure, Result.andThen_ok]
  simp only [Sem.run_bind]
  rw [part_int _ _ (.int .i64 a1) w rfl]; simp only [Result.andThen_ok]
  rw [part_int _ _ (.int .i64 b1) w rfl]; simp only [Result.andThen_ok, e]
  cases h1 : (a1 == b1)
  · simp [Sem.run_pure]
  simp only [Bool.not_true, Bool.false_eq_true, if_false, Sem.run_pure, Result.andThen_ok]
  simp only [Sem.run_bind]
  rw [part_int _ _ (.int .i64 a2) w rfl]; simp only [Result.andThen_ok]
  rw [part_int _ _ (.int .i64 b2) w rfl]; simp only [Result.andThen_ok, e]
  cases h2 : (a2 == b2)
  · simp [Sem.run_pure]
  simp only [Bool.not_true, Bool.false_eq_true, if_false, Sem.run_pure, Result.andThen_ok]
  simp only [Sem.run_bind]
  rw [part_int _ _ (.int .i64 a3) w rfl]; simp only [Result.andThen_ok]
  rw [part_int _ _ (.int .i64 b3) w rfl]; simp only [Result.andThen_ok, e]
  cases h3 : (a3 == b3)
  · simp [Sem.run_pure]
  simp only [Bool.not_true, Bool.false_eq_true, if_false, Sem.run_pure, Result.andThen_ok]
  rfl
end Go.Proofs.Ytcholjdbmmgakaa
