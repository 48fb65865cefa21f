/- Worlds that have only grown; the contracts of sat in that form; sounderlaw01.works answers true. -/
import Derived.Test.YtnmekhgilekofaaRefB
namespace Go.Proofs.Ytnmekhgilekofaa
open Go.RowKit Sat

/-- Below block B nothing has turned, and B lies in the heap. -/
def Gr (B : Nat) (w0 w : World) : Prop := Below B w0 w ∧ B ≤ w.heap.size
theorem Gr.refl (w : World) : Gr w.heap.size w w := ⟨Below.refl _ _, Nat.le_refl _⟩
theorem Gr.step {B : Nat} {w0 w w' : World} (h : Gr B w0 w) (g : Below w.heap.size w w') : Gr B w0 w' := ⟨h.1.trans (g.mono h.2), Nat.le_trans h.2 g.size⟩
theorem Gr.drewN {B : Nat} {w0 w : World} (h : Gr B w0 w) (n : Nat) : Gr B w0 (w.drewN n) := ⟨below_drewN h.1 n, h.2⟩

theorem mulDiv_gr (a b c : Int) {B : Nat} {w0 w : World} (h : Gr B w0 w) :
    Calls Try.prog 57 #[.int .i64 a, .int .i64 b, .int .i64 c] w fun e w' => e = .returned (.int .i64 (mulDiv a b c)) ∧ Gr B w0 w' :=
  (mulDiv_any a b c w).mono fun _ _ ⟨he, hb⟩ => ⟨he, h.step hb⟩
theorem mulRest_gr (a b c : Int) {B : Nat} {w0 w : World} (h : Gr B w0 w) :
    Calls Try.prog 55 #[.int .i64 a, .int .i64 b, .int .i64 c] w fun e w' => e = .returned (.tuple #[.int .i64 (mulDiv a b c), .int .i64 (mulLeft a b c)]) ∧ Gr B w0 w' :=
  (mulRest_any a b c w).mono fun _ _ ⟨he, hb⟩ => ⟨he, h.step hb⟩
theorem mulUp_gr (a b c : Int) {B : Nat} {w0 w : World} (h : Gr B w0 w) :
    Calls Try.prog 59 #[.int .i64 a, .int .i64 b, .int .i64 c] w fun e w' => e = .returned (.int .i64 (mulUp a b c)) ∧ Gr B w0 w' :=
  (mulUp_any a b c w).mono fun _ _ ⟨he, hb⟩ => ⟨he, h.step hb⟩
theorem mul_gr (a b : Int) {B : Nat} {w0 w : World} (h : Gr B w0 w) :
    Calls Try.prog 53 #[.int .i64 a, .int .i64 b] w fun e w' => e = .returned (.int .i64 (mul a b)) ∧ Gr B w0 w' :=
  (mul_any a b w).mono fun _ _ ⟨he, hb⟩ => ⟨he, h.step hb⟩

set_option maxHeartbeats 1000000 in
theorem works1_any {B : Nat} {w0 w : World} (h : Gr B w0 w) : Calls Try.prog 13 #[] w fun e w' => e = .returned (.bool true) ∧ Gr B w0 w' := by
  have f0 : add 9007199254740991 1 = 9007199254740991 := by decide +kernel
  have f1 : sub 3 5 = 0 := by decide +kernel
  have f2 : mul 1099511627776 1099511627776 = 9007199254740991 := by decide +kernel
  have f3 : add (-7) 2 = 2 := by decide +kernel
  have f4 : mulDiv 7 5 4 = 8 := by decide +kernel
  have f5 : mulUp 7 5 4 = 9 := by decide +kernel
  have f6 : mulDiv 4503599627370496 4503599627370496 4503599627370496 = 4503599627370496 := by decide +kernel
  have f7 : mulUp 1 0 3 = 0 := by decide +kernel
  have f8 : mulDiv 1 1 0 = 9007199254740991 := by decide +kernel
  have f9 : mulLeft 7 5 4 = 3 := by decide +kernel
  have f10 : mulDiv 9007199254740991 3 2 = 9007199254740991 := by decide +kernel
  have f11 : mulLeft 9007199254740991 3 2 = 0 := by decide +kernel
  have f12 : earlier (-1) 5 = 5 := by decide +kernel
  have f13 : later (-1) 5 = -1 := by decide +kernel
  have f14 : ends (-1) 3 = -1 := by decide +kernel
  have f15 : ends 9007199254740990 9 = 9007199254740991 := by decide +kernel
  have f16 : earlier (-5) (-1) = -1 := by decide +kernel
  go_enter Try.func13, Try.ntmps13
  go_wp2_with (first | (go_at_call 45; refine (add_any _ _ _).mono ?_; rintro e w' ⟨rfl, rfl⟩) | (go_at_call 51; refine (sub_any _ _ _).mono ?_; rintro e w' ⟨rfl, rfl⟩) | (go_at_call 53; refine (mul_gr _ _ (by assumption)).mono ?_; rintro e w' ⟨rfl, _⟩) | (go_at_call 57; refine (mulDiv_gr _ _ _ (by assumption)).mono ?_; rintro e w' ⟨rfl, _⟩) | (go_at_call 59; refine (mulUp_gr _ _ _ (by assumption)).mono ?_; rintro e w' ⟨rfl, _⟩) | (go_at_call 55; refine (mulRest_gr _ _ _ (by assumption)).mono ?_; rintro e w' ⟨rfl, _⟩) | (go_at_call 39; refine (earlier_any _ _ _).mono ?_; rintro e w' ⟨rfl, rfl⟩) | (go_at_call 41; refine (later_any _ _ _).mono ?_; rintro e w' ⟨rfl, rfl⟩) | (go_at_call 43; refine (ends_any _ _ _).mono ?_; rintro e w' ⟨rfl, rfl⟩))
  go_outline
  go_ret
  exact ⟨rfl, by assumption⟩

end Go.Proofs.Ytnmekhgilekofaa
