/- What the methods of package ampl answer, and what becomes of the limit in memory. -/
import Derived.Test.YtnmekhgilekofaaObj
import Derived.BigQuiet
import Derived.Deep.QuietTactic
import Derived.Deep.RegionHeld3
import Derived.Laws.EntriesVeiled
namespace Go.Proofs.Ytnmekhgilekofaa
open Go.RowKit Sat

/-- The function in a limit's field. -/
def lf (valid : Bool) : Value := if valid then .func (Fn.func 71) #[] #[] else .func (Fn.func 72) #[] #[]
/-- Block a is a limit. -/
def Lim (a : Nat) (got sent : Int) (valid : Bool) (w : World) : Prop := w.heap[a]? = some (.cells #[.int .i64 got, .int .i64 sent, .bool valid, lf valid] 43 (0, 0))
def leftOf (got sent : Int) (valid : Bool) : Int := if valid then 9007199254740991 else sub (mul 3 got) sent
def isSz (n : Int) : Bool := decide (0 ≤ n ∧ n ≤ 65535)
theorem isSz_yes {n : Int} (h0 : 0 ≤ n) (h1 : n ≤ 65535) : isSz n = true := decide_eq_true ⟨h0, h1⟩
theorem isSz_true {n : Int} (h : isSz n = true) : 0 ≤ n ∧ n ≤ 65535 := of_decide_eq_true h

theorem amplSize_any (n : Int) (w : World) : Calls Try.prog 70 #[.int .i64 n] w fun e w' => e = .returned (.bool (isSz n)) ∧ w = w' := by
  go_enter Try.func70, Try.ntmps70
  go_wp2
  all_goals go_ret
  all_goals exact ⟨ret_bool (by unfold isSz; simp; omega), rfl⟩

theorem all_any (p : Value) (w : World) : Calls Try.prog 71 #[p] w fun e w' => e = .returned (.int .i64 9007199254740991) ∧ w = w' := by
  go_enter Try.func71, Try.ntmps71
  go_wp2
  go_ret
  exact ⟨rfl, rfl⟩

/-- A limit, in a world that has only grown. -/
def LW (a : Nat) (got sent : Int) (valid : Bool) (B : Nat) (w0 w : World) : Prop := Lim a got sent valid w ∧ Gr B w0 w
theorem Lim.below {a : Nat} {got sent : Int} {valid : Bool} {w w' : World} (h : Lim a got sent valid w) (g : Below w.heap.size w w') : Lim a got sent valid w' := at_old g (lt_of_block h) h
theorem LW.drew {a : Nat} {got sent : Int} {valid : Bool} {B : Nat} {w0 w : World} (h : LW a got sent valid B w0 w) : LW a got sent valid B w0 w.drew := ⟨h.1, h.2.drew⟩
theorem LW.step {a : Nat} {got sent : Int} {valid : Bool} {B : Nat} {w0 w w' : World} (h : LW a got sent valid B w0 w) (g : Below w.heap.size w w') : LW a got sent valid B w0 w' := ⟨h.1.below g, h.2.step g⟩
theorem LW.hold {a : Nat} {got sent : Int} {valid : Bool} {B : Nat} {w0 w : World} (h : LW a got sent valid B w0 w) : w.cell? ⟨a, 0, none⟩ = some (.int .i64 got) ∧ w.cell? ⟨a, 1, none⟩ = some (.int .i64 sent) ∧ LW a got sent valid B w0 w := ⟨cellOf h.1 rfl, cellOf h.1 rfl, h⟩
theorem mul_lw (x y : Int) {a : Nat} {got sent : Int} {valid : Bool} {B : Nat} {w0 w : World} (h : LW a got sent valid B w0 w) : Calls Try.prog 53 #[.int .i64 x, .int .i64 y] w fun e w' => e = .returned (.int .i64 (mul x y)) ∧ LW a got sent valid B w0 w' :=
  (mul_any x y w).mono fun _ _ ⟨he, hb⟩ => ⟨he, h.step hb⟩
theorem sub_lw (x y : Int) {a : Nat} {got sent : Int} {valid : Bool} {B : Nat} {w0 w : World} (h : LW a got sent valid B w0 w) : Calls Try.prog 51 #[.int .i64 x, .int .i64 y] w fun e w' => e = .returned (.int .i64 (sub x y)) ∧ LW a got sent valid B w0 w' :=
  (sub_any x y w).mono fun _ _ ⟨he, hb⟩ => ⟨he, hb ▸ h⟩

set_option maxHeartbeats 400000 in
theorem thrice_any (a : Nat) (got sent : Int) (w : World) (h : Lim a got sent false w) : Calls Try.prog 72 #[.pointer (some ⟨a, 0, none⟩)] w fun e w' => e = .returned (.int .i64 (sub (mul 3 got) sent)) ∧ Below w.heap.size w w' := by
  have c0 : w.cell? ⟨a, 0, none⟩ = some (.int .i64 got) := cellOf h rfl
  have c1 : w.cell? ⟨a, 1, none⟩ = some (.int .i64 sent) := cellOf h rfl
  have c2 : w.cell? ⟨a, 2, none⟩ = some (.bool false) := cellOf h rfl
  have c3 : w.cell? ⟨a, 3, none⟩ = some (.func (Fn.func 72) #[] #[]) := cellOf h rfl
  have f0 : w.frozen? ⟨a, 0, none⟩ = false := freeOf h
  have f1 : w.frozen? ⟨a, 1, none⟩ = false := freeOf h
  have f2 : w.frozen? ⟨a, 2, none⟩ = false := freeOf h
  have f3 : w.frozen? ⟨a, 3, none⟩ = false := freeOf h
  have hlt : a < w.heap.size := lt_of_block h
  have H := Lib.hid h; clear h
  go_enter Try.func72, Try.ntmps72
  go_wp2_with fail
  obtain ⟨d0, d1, d2⟩ := LW.hold (B := w.heap.size) (w0 := w) ⟨H.out, Gr.refl w⟩
  go_region_held3 (fun w' => w'.cell? ⟨a, 0, none⟩ = some (.int .i64 got) ∧ w'.cell? ⟨a, 1, none⟩ = some (.int .i64 sent) ∧ LW a got sent false w.heap.size w w') (first | exact ⟨by assumption, by assumption, by assumption⟩ | exact LW.hold (by first | assumption | exact LW.drew (by assumption))) (first | (go_at_call 53; refine (mul_lw _ _ (by first | assumption | exact LW.drew (by assumption))).mono ?_; rintro e wB ⟨rfl, hB⟩) | (go_at_call 51; refine (sub_lw _ _ (by first | assumption | exact LW.drew (by assumption))).mono ?_; rintro e wB ⟨rfl, hB⟩))
  go_wp2
  go_ret
  exact ⟨rfl, (show LW a got sent false w.heap.size w _ from (by first | assumption | exact LW.drew (by assumption))).2.1⟩
set_option maxHeartbeats 400000 in
theorem amplNone_F (a : Nat) (got sent : Int) (w : World) (h : Lim a got sent false w) : Calls Try.prog 69 #[.pointer (some ⟨a, 0, none⟩)] w fun e w' => e = .returned (.bool false) ∧ w = w' := by
  have c0 : w.cell? ⟨a, 0, none⟩ = some (.int .i64 got) := cellOf h rfl
  have c1 : w.cell? ⟨a, 1, none⟩ = some (.int .i64 sent) := cellOf h rfl
  have c2 : w.cell? ⟨a, 2, none⟩ = some (.bool false) := cellOf h rfl
  have c3 : w.cell? ⟨a, 3, none⟩ = some (.func (Fn.func 72) #[] #[]) := cellOf h rfl
  have f0 : w.frozen? ⟨a, 0, none⟩ = false := freeOf h
  have f1 : w.frozen? ⟨a, 1, none⟩ = false := freeOf h
  have f2 : w.frozen? ⟨a, 2, none⟩ = false := freeOf h
  have f3 : w.frozen? ⟨a, 3, none⟩ = false := freeOf h
  have hlt : a < w.heap.size := lt_of_block h
  have H := Lib.hid h; clear h
  have he : ∀ w : World, (binOp .eql 41 (.func (Fn.func 72) #[] #[]) .nilFunc).run Try.prog w = .ok (.bool false) w := fun _ => by kernel_rfl
  go_enter Try.func69, Try.ntmps69
  go_wp2
  go_ret
  exact ⟨rfl, rfl⟩
set_option maxHeartbeats 400000 in
theorem amplNone_T (a : Nat) (got sent : Int) (w : World) (h : Lim a got sent true w) : Calls Try.prog 69 #[.pointer (some ⟨a, 0, none⟩)] w fun e w' => e = .returned (.bool false) ∧ w = w' := by
  have c0 : w.cell? ⟨a, 0, none⟩ = some (.int .i64 got) := cellOf h rfl
  have c1 : w.cell? ⟨a, 1, none⟩ = some (.int .i64 sent) := cellOf h rfl
  have c2 : w.cell? ⟨a, 2, none⟩ = some (.bool true) := cellOf h rfl
  have c3 : w.cell? ⟨a, 3, none⟩ = some (.func (Fn.func 71) #[] #[]) := cellOf h rfl
  have f0 : w.frozen? ⟨a, 0, none⟩ = false := freeOf h
  have f1 : w.frozen? ⟨a, 1, none⟩ = false := freeOf h
  have f2 : w.frozen? ⟨a, 2, none⟩ = false := freeOf h
  have f3 : w.frozen? ⟨a, 3, none⟩ = false := freeOf h
  have hlt : a < w.heap.size := lt_of_block h
  have H := Lib.hid h; clear h
  have he : ∀ w : World, (binOp .eql 41 (.func (Fn.func 71) #[] #[]) .nilFunc).run Try.prog w = .ok (.bool false) w := fun _ => by kernel_rfl
  go_enter Try.func69, Try.ntmps69
  go_wp2
  go_ret
  exact ⟨rfl, rfl⟩
set_option maxHeartbeats 400000 in
theorem amplLeft_F (a : Nat) (got sent : Int) (w : World) (h : Lim a got sent false w) : Calls Try.prog 20 #[.pointer (some ⟨a, 0, none⟩)] w fun e w' => e = .returned (.int .i64 (leftOf got sent false)) ∧ Below w.heap.size w w' := by
  have c0 : w.cell? ⟨a, 0, none⟩ = some (.int .i64 got) := cellOf h rfl
  have c1 : w.cell? ⟨a, 1, none⟩ = some (.int .i64 sent) := cellOf h rfl
  have c2 : w.cell? ⟨a, 2, none⟩ = some (.bool false) := cellOf h rfl
  have c3 : w.cell? ⟨a, 3, none⟩ = some (.func (Fn.func 72) #[] #[]) := cellOf h rfl
  have f0 : w.frozen? ⟨a, 0, none⟩ = false := freeOf h
  have f1 : w.frozen? ⟨a, 1, none⟩ = false := freeOf h
  have f2 : w.frozen? ⟨a, 2, none⟩ = false := freeOf h
  have f3 : w.frozen? ⟨a, 3, none⟩ = false := freeOf h
  have hlt : a < w.heap.size := lt_of_block h
  have H := Lib.hid h; clear h
  go_enter Try.func20, Try.ntmps20
  go_wp2_with (go_at_call 69; refine (amplNone_F a got sent _ H.out).mono ?_; rintro e w' ⟨rfl, rfl⟩)
  refine (thrice_any a got sent _ H.out).mono ?_
  rintro e w1 ⟨rfl, hb⟩
  go_wp2_with fail
  go_ret
  exact ⟨rfl, hb⟩
set_option maxHeartbeats 400000 in
theorem amplCan_yes_F (a : Nat) (got sent n : Int) (w : World) (h : Lim a got sent false w) (hn : isSz n = true) : Calls Try.prog 21 #[.pointer (some ⟨a, 0, none⟩), .int .i64 n] w fun e w' => e = .returned (.bool (decide (n ≤ leftOf got sent false))) ∧ Below w.heap.size w w' := by
  have c0 : w.cell? ⟨a, 0, none⟩ = some (.int .i64 got) := cellOf h rfl
  have c1 : w.cell? ⟨a, 1, none⟩ = some (.int .i64 sent) := cellOf h rfl
  have c2 : w.cell? ⟨a, 2, none⟩ = some (.bool false) := cellOf h rfl
  have c3 : w.cell? ⟨a, 3, none⟩ = some (.func (Fn.func 72) #[] #[]) := cellOf h rfl
  have f0 : w.frozen? ⟨a, 0, none⟩ = false := freeOf h
  have f1 : w.frozen? ⟨a, 1, none⟩ = false := freeOf h
  have f2 : w.frozen? ⟨a, 2, none⟩ = false := freeOf h
  have f3 : w.frozen? ⟨a, 3, none⟩ = false := freeOf h
  have hlt : a < w.heap.size := lt_of_block h
  have H := Lib.hid h; clear h
  go_enter Try.func21, Try.ntmps21
  go_wp2_with (first | (go_at_call 69; refine (amplNone_F a got sent _ H.out).mono ?_; rintro e w' ⟨rfl, rfl⟩) | (go_at_call 70; refine (amplSize_any _ _).mono ?_; rintro e w' ⟨rfl, rfl⟩))
  refine (thrice_any a got sent _ H.out).mono ?_
  rintro e w1 ⟨rfl, hb⟩
  go_wp2_with fail
  go_ret
  exact ⟨rfl, hb⟩
set_option maxHeartbeats 400000 in
theorem amplCan_no_F (a : Nat) (got sent n : Int) (w : World) (h : Lim a got sent false w) (hn : isSz n = false) : Calls Try.prog 21 #[.pointer (some ⟨a, 0, none⟩), .int .i64 n] w fun e w' => e = .returned (.bool false) ∧ Below w.heap.size w w' := by
  have c0 : w.cell? ⟨a, 0, none⟩ = some (.int .i64 got) := cellOf h rfl
  have c1 : w.cell? ⟨a, 1, none⟩ = some (.int .i64 sent) := cellOf h rfl
  have c2 : w.cell? ⟨a, 2, none⟩ = some (.bool false) := cellOf h rfl
  have c3 : w.cell? ⟨a, 3, none⟩ = some (.func (Fn.func 72) #[] #[]) := cellOf h rfl
  have f0 : w.frozen? ⟨a, 0, none⟩ = false := freeOf h
  have f1 : w.frozen? ⟨a, 1, none⟩ = false := freeOf h
  have f2 : w.frozen? ⟨a, 2, none⟩ = false := freeOf h
  have f3 : w.frozen? ⟨a, 3, none⟩ = false := freeOf h
  have hlt : a < w.heap.size := lt_of_block h
  have H := Lib.hid h; clear h
  go_enter Try.func21, Try.ntmps21
  go_wp2_with (first | (go_at_call 69; refine (amplNone_F a got sent _ H.out).mono ?_; rintro e w' ⟨rfl, rfl⟩) | (go_at_call 70; refine (amplSize_any _ _).mono ?_; rintro e w' ⟨rfl, rfl⟩))
  go_ret
  exact ⟨rfl, Below.refl _ _⟩
set_option maxHeartbeats 400000 in
theorem amplValid_F (a : Nat) (got sent : Int) (w : World) (h : Lim a got sent false w) : Calls Try.prog 19 #[.pointer (some ⟨a, 0, none⟩)] w fun e w' => e = .returned (.bool false) ∧ w = w' := by
  have c0 : w.cell? ⟨a, 0, none⟩ = some (.int .i64 got) := cellOf h rfl
  have c1 : w.cell? ⟨a, 1, none⟩ = some (.int .i64 sent) := cellOf h rfl
  have c2 : w.cell? ⟨a, 2, none⟩ = some (.bool false) := cellOf h rfl
  have c3 : w.cell? ⟨a, 3, none⟩ = some (.func (Fn.func 72) #[] #[]) := cellOf h rfl
  have f0 : w.frozen? ⟨a, 0, none⟩ = false := freeOf h
  have f1 : w.frozen? ⟨a, 1, none⟩ = false := freeOf h
  have f2 : w.frozen? ⟨a, 2, none⟩ = false := freeOf h
  have f3 : w.frozen? ⟨a, 3, none⟩ = false := freeOf h
  have hlt : a < w.heap.size := lt_of_block h
  have H := Lib.hid h; clear h
  go_enter Try.func19, Try.ntmps19
  go_wp2_with (go_at_call 69; refine (amplNone_F a got sent _ H.out).mono ?_; rintro e w' ⟨rfl, rfl⟩)
  go_ret
  exact ⟨rfl, rfl⟩
set_option maxHeartbeats 400000 in
theorem amplTotals_F (a : Nat) (got sent : Int) (w : World) (h : Lim a got sent false w) : Calls Try.prog 15 #[.pointer (some ⟨a, 0, none⟩)] w fun e w' => e = .returned (.tuple #[.int .i64 got, .int .i64 sent]) ∧ ∃ n, w' = w.drewN n := by
  have c0 : w.cell? ⟨a, 0, none⟩ = some (.int .i64 got) := cellOf h rfl
  have c1 : w.cell? ⟨a, 1, none⟩ = some (.int .i64 sent) := cellOf h rfl
  have c2 : w.cell? ⟨a, 2, none⟩ = some (.bool false) := cellOf h rfl
  have c3 : w.cell? ⟨a, 3, none⟩ = some (.func (Fn.func 72) #[] #[]) := cellOf h rfl
  have f0 : w.frozen? ⟨a, 0, none⟩ = false := freeOf h
  have f1 : w.frozen? ⟨a, 1, none⟩ = false := freeOf h
  have f2 : w.frozen? ⟨a, 2, none⟩ = false := freeOf h
  have f3 : w.frozen? ⟨a, 3, none⟩ = false := freeOf h
  have hlt : a < w.heap.size := lt_of_block h
  have H := Lib.hid h; clear h
  go_enter Try.func15, Try.ntmps15
  go_wp2_with (go_at_call 69; refine (amplNone_F a got sent _ H.out).mono ?_; rintro e w' ⟨rfl, rfl⟩)
  go_quiet (fail)
  go_wp2_with fail
  go_ret2
  exact ⟨rfl, _, rfl⟩
set_option maxHeartbeats 400000 in
theorem amplCopy_F (a : Nat) (got sent : Int) (w : World) (h : Lim a got sent false w) : Calls Try.prog 22 #[.pointer (some ⟨a, 0, none⟩)] w fun e w' => e = .returned (.pointer (some ⟨w.heap.size, 0, none⟩)) ∧ Lim w.heap.size got sent false w' ∧ Below w.heap.size w w' := by
  have c0 : w.cell? ⟨a, 0, none⟩ = some (.int .i64 got) := cellOf h rfl
  have c1 : w.cell? ⟨a, 1, none⟩ = some (.int .i64 sent) := cellOf h rfl
  have c2 : w.cell? ⟨a, 2, none⟩ = some (.bool false) := cellOf h rfl
  have c3 : w.cell? ⟨a, 3, none⟩ = some (.func (Fn.func 72) #[] #[]) := cellOf h rfl
  have f0 : w.frozen? ⟨a, 0, none⟩ = false := freeOf h
  have f1 : w.frozen? ⟨a, 1, none⟩ = false := freeOf h
  have f2 : w.frozen? ⟨a, 2, none⟩ = false := freeOf h
  have f3 : w.frozen? ⟨a, 3, none⟩ = false := freeOf h
  have hlt : a < w.heap.size := lt_of_block h
  have H := Lib.hid h; clear h
  go_enter Try.func22, Try.ntmps22
  go_wp2_with (go_at_call 69; refine (amplNone_F a got sent _ H.out).mono ?_; rintro e w' ⟨rfl, rfl⟩)
  go_ret
  exact ⟨rfl, new_at _ _, (Below.refl _ _).alloc (Nat.le_refl _) _⟩
set_option maxHeartbeats 400000 in
theorem amplGot_no_F (a : Nat) (got sent n : Int) (w : World) (h : Lim a got sent false w) (hn : isSz n = false) : Calls Try.prog 16 #[.pointer (some ⟨a, 0, none⟩), .int .i64 n] w fun e w' => e = .returned (.int .i64 2) ∧ w = w' := by
  have c0 : w.cell? ⟨a, 0, none⟩ = some (.int .i64 got) := cellOf h rfl
  have c1 : w.cell? ⟨a, 1, none⟩ = some (.int .i64 sent) := cellOf h rfl
  have c2 : w.cell? ⟨a, 2, none⟩ = some (.bool false) := cellOf h rfl
  have c3 : w.cell? ⟨a, 3, none⟩ = some (.func (Fn.func 72) #[] #[]) := cellOf h rfl
  have f0 : w.frozen? ⟨a, 0, none⟩ = false := freeOf h
  have f1 : w.frozen? ⟨a, 1, none⟩ = false := freeOf h
  have f2 : w.frozen? ⟨a, 2, none⟩ = false := freeOf h
  have f3 : w.frozen? ⟨a, 3, none⟩ = false := freeOf h
  have hlt : a < w.heap.size := lt_of_block h
  have H := Lib.hid h; clear h
  go_enter Try.func16, Try.ntmps16
  go_wp2_with (first | (go_at_call 69; refine (amplNone_F a got sent _ H.out).mono ?_; rintro e w' ⟨rfl, rfl⟩) | (go_at_call 70; refine (amplSize_any _ _).mono ?_; rintro e w' ⟨rfl, rfl⟩))
  go_ret
  exact ⟨rfl, rfl⟩
set_option maxHeartbeats 400000 in
theorem amplGot_yes_F (a : Nat) (got sent n : Int) (w : World) (h : Lim a got sent false w) (hn : isSz n = true) : Calls Try.prog 16 #[.pointer (some ⟨a, 0, none⟩), .int .i64 n] w fun e w' => e = .returned (.int .i64 0) ∧ Lim a (add got n) sent false w' ∧ Ch a w w' := by
  have c0 : w.cell? ⟨a, 0, none⟩ = some (.int .i64 got) := cellOf h rfl
  have c1 : w.cell? ⟨a, 1, none⟩ = some (.int .i64 sent) := cellOf h rfl
  have c2 : w.cell? ⟨a, 2, none⟩ = some (.bool false) := cellOf h rfl
  have c3 : w.cell? ⟨a, 3, none⟩ = some (.func (Fn.func 72) #[] #[]) := cellOf h rfl
  have f0 : w.frozen? ⟨a, 0, none⟩ = false := freeOf h
  have f1 : w.frozen? ⟨a, 1, none⟩ = false := freeOf h
  have f2 : w.frozen? ⟨a, 2, none⟩ = false := freeOf h
  have f3 : w.frozen? ⟨a, 3, none⟩ = false := freeOf h
  have hlt : a < w.heap.size := lt_of_block h
  have H := Lib.hid h; clear h
  go_enter Try.func16, Try.ntmps16
  go_wp2_with (first | (go_at_call 69; refine (amplNone_F a got sent _ H.out).mono ?_; rintro e w' ⟨rfl, rfl⟩) | (go_at_call 70; refine (amplSize_any _ _).mono ?_; rintro e w' ⟨rfl, rfl⟩) | (go_at_call 45; refine (add_any _ _ _).mono ?_; rintro e w' ⟨rfl, rfl⟩))
  go_ret
  exact ⟨rfl, set_at H.out, Ch.set _ _ _ _⟩
set_option maxHeartbeats 400000 in
theorem amplSent_no_F (a : Nat) (got sent n : Int) (w : World) (h : Lim a got sent false w) (hn : isSz n = false) : Calls Try.prog 17 #[.pointer (some ⟨a, 0, none⟩), .int .i64 n] w fun e w' => e = .returned (.int .i64 2) ∧ w = w' := by
  have c0 : w.cell? ⟨a, 0, none⟩ = some (.int .i64 got) := cellOf h rfl
  have c1 : w.cell? ⟨a, 1, none⟩ = some (.int .i64 sent) := cellOf h rfl
  have c2 : w.cell? ⟨a, 2, none⟩ = some (.bool false) := cellOf h rfl
  have c3 : w.cell? ⟨a, 3, none⟩ = some (.func (Fn.func 72) #[] #[]) := cellOf h rfl
  have f0 : w.frozen? ⟨a, 0, none⟩ = false := freeOf h
  have f1 : w.frozen? ⟨a, 1, none⟩ = false := freeOf h
  have f2 : w.frozen? ⟨a, 2, none⟩ = false := freeOf h
  have f3 : w.frozen? ⟨a, 3, none⟩ = false := freeOf h
  have hlt : a < w.heap.size := lt_of_block h
  have H := Lib.hid h; clear h
  go_enter Try.func17, Try.ntmps17
  go_wp2_with (first | (go_at_call 69; refine (amplNone_F a got sent _ H.out).mono ?_; rintro e w' ⟨rfl, rfl⟩) | (go_at_call 70; refine (amplSize_any _ _).mono ?_; rintro e w' ⟨rfl, rfl⟩))
  go_ret
  exact ⟨rfl, rfl⟩
set_option maxHeartbeats 400000 in
theorem amplSent_much_F (a : Nat) (got sent n : Int) (w : World) (h : Lim a got sent false w) (hn : isSz n = true) (hl : leftOf got sent false < n) : Calls Try.prog 17 #[.pointer (some ⟨a, 0, none⟩), .int .i64 n] w fun e w' => e = .returned (.int .i64 212) ∧ Lim a got sent false w' ∧ Ch a w w' := by
  have c0 : w.cell? ⟨a, 0, none⟩ = some (.int .i64 got) := cellOf h rfl
  have c1 : w.cell? ⟨a, 1, none⟩ = some (.int .i64 sent) := cellOf h rfl
  have c2 : w.cell? ⟨a, 2, none⟩ = some (.bool false) := cellOf h rfl
  have c3 : w.cell? ⟨a, 3, none⟩ = some (.func (Fn.func 72) #[] #[]) := cellOf h rfl
  have f0 : w.frozen? ⟨a, 0, none⟩ = false := freeOf h
  have f1 : w.frozen? ⟨a, 1, none⟩ = false := freeOf h
  have f2 : w.frozen? ⟨a, 2, none⟩ = false := freeOf h
  have f3 : w.frozen? ⟨a, 3, none⟩ = false := freeOf h
  have hlt : a < w.heap.size := lt_of_block h
  have H := Lib.hid h; clear h
  go_enter Try.func17, Try.ntmps17
  go_wp2_with (first | (go_at_call 69; refine (amplNone_F a got sent _ H.out).mono ?_; rintro e w' ⟨rfl, rfl⟩) | (go_at_call 70; refine (amplSize_any _ _).mono ?_; rintro e w' ⟨rfl, rfl⟩))
  refine (thrice_any a got sent _ H.out).mono ?_
  rintro e w1 ⟨rfl, hb⟩
  have hl' : sub (mul 3 got) sent < n := hl
  clear hl
  go_wp2_with fail
  go_ret
  exact ⟨rfl, H.out.below (hb), Ch.of_below (hb)⟩
set_option maxHeartbeats 400000 in
theorem amplSent_yes_F (a : Nat) (got sent n : Int) (w : World) (h : Lim a got sent false w) (hn : isSz n = true) (hl : n ≤ leftOf got sent false) : Calls Try.prog 17 #[.pointer (some ⟨a, 0, none⟩), .int .i64 n] w fun e w' => e = .returned (.int .i64 0) ∧ Lim a got (add sent n) false w' ∧ Ch a w w' := by
  have c0 : w.cell? ⟨a, 0, none⟩ = some (.int .i64 got) := cellOf h rfl
  have c1 : w.cell? ⟨a, 1, none⟩ = some (.int .i64 sent) := cellOf h rfl
  have c2 : w.cell? ⟨a, 2, none⟩ = some (.bool false) := cellOf h rfl
  have c3 : w.cell? ⟨a, 3, none⟩ = some (.func (Fn.func 72) #[] #[]) := cellOf h rfl
  have f0 : w.frozen? ⟨a, 0, none⟩ = false := freeOf h
  have f1 : w.frozen? ⟨a, 1, none⟩ = false := freeOf h
  have f2 : w.frozen? ⟨a, 2, none⟩ = false := freeOf h
  have f3 : w.frozen? ⟨a, 3, none⟩ = false := freeOf h
  have hlt : a < w.heap.size := lt_of_block h
  have H := Lib.hid h; clear h
  go_enter Try.func17, Try.ntmps17
  go_wp2_with (first | (go_at_call 69; refine (amplNone_F a got sent _ H.out).mono ?_; rintro e w' ⟨rfl, rfl⟩) | (go_at_call 70; refine (amplSize_any _ _).mono ?_; rintro e w' ⟨rfl, rfl⟩))
  refine (thrice_any a got sent _ H.out).mono ?_
  rintro e w1 ⟨rfl, hb⟩
  have HB := Lib.hid (show Below w.heap.size w _ from hb)
  have H1 := Lib.hid (H.out.below HB.out)
  have e0 := HB.out.cell (p := ⟨a, 0, none⟩) hlt; have e1 := HB.out.cell (p := ⟨a, 1, none⟩) hlt; have e2 := HB.out.frozen (p := ⟨a, 1, none⟩) hlt
  rw [c0] at e0; rw [c1] at e1; rw [f1] at e2
  have hl' : ¬ sub (mul 3 got) sent < n := by intro x; exact absurd hl (Int.not_le.2 x)
  clear hl
  go_wp2_with (go_at_call 45; refine (add_any _ _ _).mono ?_; rintro e w' ⟨rfl, rfl⟩)
  go_ret
  exact ⟨rfl, set_at H1.out, (Ch.of_below HB.out).trans (Ch.set _ _ _ _)⟩
set_option maxHeartbeats 400000 in
theorem amplValidate_F (a : Nat) (got sent : Int) (w : World) (h : Lim a got sent false w) : Calls Try.prog 18 #[.pointer (some ⟨a, 0, none⟩)] w fun e w' => e = .returned (.int .i64 0) ∧ Lim a got sent true w' ∧ Ch a w w' := by
  have c0 : w.cell? ⟨a, 0, none⟩ = some (.int .i64 got) := cellOf h rfl
  have c1 : w.cell? ⟨a, 1, none⟩ = some (.int .i64 sent) := cellOf h rfl
  have c2 : w.cell? ⟨a, 2, none⟩ = some (.bool false) := cellOf h rfl
  have c3 : w.cell? ⟨a, 3, none⟩ = some (.func (Fn.func 72) #[] #[]) := cellOf h rfl
  have f0 : w.frozen? ⟨a, 0, none⟩ = false := freeOf h
  have f1 : w.frozen? ⟨a, 1, none⟩ = false := freeOf h
  have f2 : w.frozen? ⟨a, 2, none⟩ = false := freeOf h
  have f3 : w.frozen? ⟨a, 3, none⟩ = false := freeOf h
  have hlt : a < w.heap.size := lt_of_block h
  have H := Lib.hid h; clear h
  go_enter Try.func18, Try.ntmps18
  go_wp2_with (go_at_call 69; refine (amplNone_F a got sent _ H.out).mono ?_; rintro e w' ⟨rfl, rfl⟩)
  go_ret
  exact ⟨rfl, set_at (set_at H.out), (Ch.set _ _ _ _).trans (Ch.set _ _ _ _)⟩
set_option maxHeartbeats 400000 in
theorem amplLeft_T (a : Nat) (got sent : Int) (w : World) (h : Lim a got sent true w) : Calls Try.prog 20 #[.pointer (some ⟨a, 0, none⟩)] w fun e w' => e = .returned (.int .i64 (leftOf got sent true)) ∧ Below w.heap.size w w' := by
  have c0 : w.cell? ⟨a, 0, none⟩ = some (.int .i64 got) := cellOf h rfl
  have c1 : w.cell? ⟨a, 1, none⟩ = some (.int .i64 sent) := cellOf h rfl
  have c2 : w.cell? ⟨a, 2, none⟩ = some (.bool true) := cellOf h rfl
  have c3 : w.cell? ⟨a, 3, none⟩ = some (.func (Fn.func 71) #[] #[]) := cellOf h rfl
  have f0 : w.frozen? ⟨a, 0, none⟩ = false := freeOf h
  have f1 : w.frozen? ⟨a, 1, none⟩ = false := freeOf h
  have f2 : w.frozen? ⟨a, 2, none⟩ = false := freeOf h
  have f3 : w.frozen? ⟨a, 3, none⟩ = false := freeOf h
  have hlt : a < w.heap.size := lt_of_block h
  have H := Lib.hid h; clear h
  go_enter Try.func20, Try.ntmps20
  go_wp2_with (go_at_call 69; refine (amplNone_T a got sent _ H.out).mono ?_; rintro e w' ⟨rfl, rfl⟩)
  refine (all_any _ _).mono ?_
  rintro e w1 ⟨rfl, rfl⟩
  go_wp2_with fail
  go_ret
  exact ⟨rfl, Below.refl _ _⟩
set_option maxHeartbeats 400000 in
theorem amplCan_yes_T (a : Nat) (got sent n : Int) (w : World) (h : Lim a got sent true w) (hn : isSz n = true) : Calls Try.prog 21 #[.pointer (some ⟨a, 0, none⟩), .int .i64 n] w fun e w' => e = .returned (.bool (decide (n ≤ leftOf got sent true))) ∧ Below w.heap.size w w' := by
  have c0 : w.cell? ⟨a, 0, none⟩ = some (.int .i64 got) := cellOf h rfl
  have c1 : w.cell? ⟨a, 1, none⟩ = some (.int .i64 sent) := cellOf h rfl
  have c2 : w.cell? ⟨a, 2, none⟩ = some (.bool true) := cellOf h rfl
  have c3 : w.cell? ⟨a, 3, none⟩ = some (.func (Fn.func 71) #[] #[]) := cellOf h rfl
  have f0 : w.frozen? ⟨a, 0, none⟩ = false := freeOf h
  have f1 : w.frozen? ⟨a, 1, none⟩ = false := freeOf h
  have f2 : w.frozen? ⟨a, 2, none⟩ = false := freeOf h
  have f3 : w.frozen? ⟨a, 3, none⟩ = false := freeOf h
  have hlt : a < w.heap.size := lt_of_block h
  have H := Lib.hid h; clear h
  go_enter Try.func21, Try.ntmps21
  go_wp2_with (first | (go_at_call 69; refine (amplNone_T a got sent _ H.out).mono ?_; rintro e w' ⟨rfl, rfl⟩) | (go_at_call 70; refine (amplSize_any _ _).mono ?_; rintro e w' ⟨rfl, rfl⟩))
  refine (all_any _ _).mono ?_
  rintro e w1 ⟨rfl, rfl⟩
  go_wp2_with fail
  go_ret
  exact ⟨rfl, Below.refl _ _⟩
set_option maxHeartbeats 400000 in
theorem amplCan_no_T (a : Nat) (got sent n : Int) (w : World) (h : Lim a got sent true w) (hn : isSz n = false) : Calls Try.prog 21 #[.pointer (some ⟨a, 0, none⟩), .int .i64 n] w fun e w' => e = .returned (.bool false) ∧ Below w.heap.size w w' := by
  have c0 : w.cell? ⟨a, 0, none⟩ = some (.int .i64 got) := cellOf h rfl
  have c1 : w.cell? ⟨a, 1, none⟩ = some (.int .i64 sent) := cellOf h rfl
  have c2 : w.cell? ⟨a, 2, none⟩ = some (.bool true) := cellOf h rfl
  have c3 : w.cell? ⟨a, 3, none⟩ = some (.func (Fn.func 71) #[] #[]) := cellOf h rfl
  have f0 : w.frozen? ⟨a, 0, none⟩ = false := freeOf h
  have f1 : w.frozen? ⟨a, 1, none⟩ = false := freeOf h
  have f2 : w.frozen? ⟨a, 2, none⟩ = false := freeOf h
  have f3 : w.frozen? ⟨a, 3, none⟩ = false := freeOf h
  have hlt : a < w.heap.size := lt_of_block h
  have H := Lib.hid h; clear h
  go_enter Try.func21, Try.ntmps21
  go_wp2_with (first | (go_at_call 69; refine (amplNone_T a got sent _ H.out).mono ?_; rintro e w' ⟨rfl, rfl⟩) | (go_at_call 70; refine (amplSize_any _ _).mono ?_; rintro e w' ⟨rfl, rfl⟩))
  go_ret
  exact ⟨rfl, Below.refl _ _⟩
set_option maxHeartbeats 400000 in
theorem amplValid_T (a : Nat) (got sent : Int) (w : World) (h : Lim a got sent true w) : Calls Try.prog 19 #[.pointer (some ⟨a, 0, none⟩)] w fun e w' => e = .returned (.bool true) ∧ w = w' := by
  have c0 : w.cell? ⟨a, 0, none⟩ = some (.int .i64 got) := cellOf h rfl
  have c1 : w.cell? ⟨a, 1, none⟩ = some (.int .i64 sent) := cellOf h rfl
  have c2 : w.cell? ⟨a, 2, none⟩ = some (.bool true) := cellOf h rfl
  have c3 : w.cell? ⟨a, 3, none⟩ = some (.func (Fn.func 71) #[] #[]) := cellOf h rfl
  have f0 : w.frozen? ⟨a, 0, none⟩ = false := freeOf h
  have f1 : w.frozen? ⟨a, 1, none⟩ = false := freeOf h
  have f2 : w.frozen? ⟨a, 2, none⟩ = false := freeOf h
  have f3 : w.frozen? ⟨a, 3, none⟩ = false := freeOf h
  have hlt : a < w.heap.size := lt_of_block h
  have H := Lib.hid h; clear h
  go_enter Try.func19, Try.ntmps19
  go_wp2_with (go_at_call 69; refine (amplNone_T a got sent _ H.out).mono ?_; rintro e w' ⟨rfl, rfl⟩)
  go_ret
  exact ⟨rfl, rfl⟩
set_option maxHeartbeats 400000 in
theorem amplTotals_T (a : Nat) (got sent : Int) (w : World) (h : Lim a got sent true w) : Calls Try.prog 15 #[.pointer (some ⟨a, 0, none⟩)] w fun e w' => e = .returned (.tuple #[.int .i64 got, .int .i64 sent]) ∧ ∃ n, w' = w.drewN n := by
  have c0 : w.cell? ⟨a, 0, none⟩ = some (.int .i64 got) := cellOf h rfl
  have c1 : w.cell? ⟨a, 1, none⟩ = some (.int .i64 sent) := cellOf h rfl
  have c2 : w.cell? ⟨a, 2, none⟩ = some (.bool true) := cellOf h rfl
  have c3 : w.cell? ⟨a, 3, none⟩ = some (.func (Fn.func 71) #[] #[]) := cellOf h rfl
  have f0 : w.frozen? ⟨a, 0, none⟩ = false := freeOf h
  have f1 : w.frozen? ⟨a, 1, none⟩ = false := freeOf h
  have f2 : w.frozen? ⟨a, 2, none⟩ = false := freeOf h
  have f3 : w.frozen? ⟨a, 3, none⟩ = false := freeOf h
  have hlt : a < w.heap.size := lt_of_block h
  have H := Lib.hid h; clear h
  go_enter Try.func15, Try.ntmps15
  go_wp2_with (go_at_call 69; refine (amplNone_T a got sent _ H.out).mono ?_; rintro e w' ⟨rfl, rfl⟩)
  go_quiet (fail)
  go_wp2_with fail
  go_ret2
  exact ⟨rfl, _, rfl⟩
set_option maxHeartbeats 400000 in
theorem amplCopy_T (a : Nat) (got sent : Int) (w : World) (h : Lim a got sent true w) : Calls Try.prog 22 #[.pointer (some ⟨a, 0, none⟩)] w fun e w' => e = .returned (.pointer (some ⟨w.heap.size, 0, none⟩)) ∧ Lim w.heap.size got sent true w' ∧ Below w.heap.size w w' := by
  have c0 : w.cell? ⟨a, 0, none⟩ = some (.int .i64 got) := cellOf h rfl
  have c1 : w.cell? ⟨a, 1, none⟩ = some (.int .i64 sent) := cellOf h rfl
  have c2 : w.cell? ⟨a, 2, none⟩ = some (.bool true) := cellOf h rfl
  have c3 : w.cell? ⟨a, 3, none⟩ = some (.func (Fn.func 71) #[] #[]) := cellOf h rfl
  have f0 : w.frozen? ⟨a, 0, none⟩ = false := freeOf h
  have f1 : w.frozen? ⟨a, 1, none⟩ = false := freeOf h
  have f2 : w.frozen? ⟨a, 2, none⟩ = false := freeOf h
  have f3 : w.frozen? ⟨a, 3, none⟩ = false := freeOf h
  have hlt : a < w.heap.size := lt_of_block h
  have H := Lib.hid h; clear h
  go_enter Try.func22, Try.ntmps22
  go_wp2_with (go_at_call 69; refine (amplNone_T a got sent _ H.out).mono ?_; rintro e w' ⟨rfl, rfl⟩)
  go_ret
  exact ⟨rfl, new_at _ _, (Below.refl _ _).alloc (Nat.le_refl _) _⟩
set_option maxHeartbeats 400000 in
theorem amplGot_no_T (a : Nat) (got sent n : Int) (w : World) (h : Lim a got sent true w) (hn : isSz n = false) : Calls Try.prog 16 #[.pointer (some ⟨a, 0, none⟩), .int .i64 n] w fun e w' => e = .returned (.int .i64 2) ∧ w = w' := by
  have c0 : w.cell? ⟨a, 0, none⟩ = some (.int .i64 got) := cellOf h rfl
  have c1 : w.cell? ⟨a, 1, none⟩ = some (.int .i64 sent) := cellOf h rfl
  have c2 : w.cell? ⟨a, 2, none⟩ = some (.bool true) := cellOf h rfl
  have c3 : w.cell? ⟨a, 3, none⟩ = some (.func (Fn.func 71) #[] #[]) := cellOf h rfl
  have f0 : w.frozen? ⟨a, 0, none⟩ = false := freeOf h
  have f1 : w.frozen? ⟨a, 1, none⟩ = false := freeOf h
  have f2 : w.frozen? ⟨a, 2, none⟩ = false := freeOf h
  have f3 : w.frozen? ⟨a, 3, none⟩ = false := freeOf h
  have hlt : a < w.heap.size := lt_of_block h
  have H := Lib.hid h; clear h
  go_enter Try.func16, Try.ntmps16
  go_wp2_with (first | (go_at_call 69; refine (amplNone_T a got sent _ H.out).mono ?_; rintro e w' ⟨rfl, rfl⟩) | (go_at_call 70; refine (amplSize_any _ _).mono ?_; rintro e w' ⟨rfl, rfl⟩))
  go_ret
  exact ⟨rfl, rfl⟩
set_option maxHeartbeats 400000 in
theorem amplGot_yes_T (a : Nat) (got sent n : Int) (w : World) (h : Lim a got sent true w) (hn : isSz n = true) : Calls Try.prog 16 #[.pointer (some ⟨a, 0, none⟩), .int .i64 n] w fun e w' => e = .returned (.int .i64 0) ∧ Lim a (add got n) sent true w' ∧ Ch a w w' := by
  have c0 : w.cell? ⟨a, 0, none⟩ = some (.int .i64 got) := cellOf h rfl
  have c1 : w.cell? ⟨a, 1, none⟩ = some (.int .i64 sent) := cellOf h rfl
  have c2 : w.cell? ⟨a, 2, none⟩ = some (.bool true) := cellOf h rfl
  have c3 : w.cell? ⟨a, 3, none⟩ = some (.func (Fn.func 71) #[] #[]) := cellOf h rfl
  have f0 : w.frozen? ⟨a, 0, none⟩ = false := freeOf h
  have f1 : w.frozen? ⟨a, 1, none⟩ = false := freeOf h
  have f2 : w.frozen? ⟨a, 2, none⟩ = false := freeOf h
  have f3 : w.frozen? ⟨a, 3, none⟩ = false := freeOf h
  have hlt : a < w.heap.size := lt_of_block h
  have H := Lib.hid h; clear h
  go_enter Try.func16, Try.ntmps16
  go_wp2_with (first | (go_at_call 69; refine (amplNone_T a got sent _ H.out).mono ?_; rintro e w' ⟨rfl, rfl⟩) | (go_at_call 70; refine (amplSize_any _ _).mono ?_; rintro e w' ⟨rfl, rfl⟩) | (go_at_call 45; refine (add_any _ _ _).mono ?_; rintro e w' ⟨rfl, rfl⟩))
  go_ret
  exact ⟨rfl, set_at H.out, Ch.set _ _ _ _⟩
set_option maxHeartbeats 400000 in
theorem amplSent_no_T (a : Nat) (got sent n : Int) (w : World) (h : Lim a got sent true w) (hn : isSz n = false) : Calls Try.prog 17 #[.pointer (some ⟨a, 0, none⟩), .int .i64 n] w fun e w' => e = .returned (.int .i64 2) ∧ w = w' := by
  have c0 : w.cell? ⟨a, 0, none⟩ = some (.int .i64 got) := cellOf h rfl
  have c1 : w.cell? ⟨a, 1, none⟩ = some (.int .i64 sent) := cellOf h rfl
  have c2 : w.cell? ⟨a, 2, none⟩ = some (.bool true) := cellOf h rfl
  have c3 : w.cell? ⟨a, 3, none⟩ = some (.func (Fn.func 71) #[] #[]) := cellOf h rfl
  have f0 : w.frozen? ⟨a, 0, none⟩ = false := freeOf h
  have f1 : w.frozen? ⟨a, 1, none⟩ = false := freeOf h
  have f2 : w.frozen? ⟨a, 2, none⟩ = false := freeOf h
  have f3 : w.frozen? ⟨a, 3, none⟩ = false := freeOf h
  have hlt : a < w.heap.size := lt_of_block h
  have H := Lib.hid h; clear h
  go_enter Try.func17, Try.ntmps17
  go_wp2_with (first | (go_at_call 69; refine (amplNone_T a got sent _ H.out).mono ?_; rintro e w' ⟨rfl, rfl⟩) | (go_at_call 70; refine (amplSize_any _ _).mono ?_; rintro e w' ⟨rfl, rfl⟩))
  go_ret
  exact ⟨rfl, rfl⟩
set_option maxHeartbeats 400000 in
theorem amplSent_much_T (a : Nat) (got sent n : Int) (w : World) (h : Lim a got sent true w) (hn : isSz n = true) (hl : leftOf got sent true < n) : Calls Try.prog 17 #[.pointer (some ⟨a, 0, none⟩), .int .i64 n] w fun e w' => e = .returned (.int .i64 212) ∧ Lim a got sent true w' ∧ Ch a w w' := by
  have c0 : w.cell? ⟨a, 0, none⟩ = some (.int .i64 got) := cellOf h rfl
  have c1 : w.cell? ⟨a, 1, none⟩ = some (.int .i64 sent) := cellOf h rfl
  have c2 : w.cell? ⟨a, 2, none⟩ = some (.bool true) := cellOf h rfl
  have c3 : w.cell? ⟨a, 3, none⟩ = some (.func (Fn.func 71) #[] #[]) := cellOf h rfl
  have f0 : w.frozen? ⟨a, 0, none⟩ = false := freeOf h
  have f1 : w.frozen? ⟨a, 1, none⟩ = false := freeOf h
  have f2 : w.frozen? ⟨a, 2, none⟩ = false := freeOf h
  have f3 : w.frozen? ⟨a, 3, none⟩ = false := freeOf h
  have hlt : a < w.heap.size := lt_of_block h
  have H := Lib.hid h; clear h
  go_enter Try.func17, Try.ntmps17
  go_wp2_with (first | (go_at_call 69; refine (amplNone_T a got sent _ H.out).mono ?_; rintro e w' ⟨rfl, rfl⟩) | (go_at_call 70; refine (amplSize_any _ _).mono ?_; rintro e w' ⟨rfl, rfl⟩))
  refine (all_any _ _).mono ?_
  rintro e w1 ⟨rfl, rfl⟩
  have hl' : (9007199254740991 : Int) < n := hl
  clear hl
  go_wp2_with fail
  go_ret
  exact ⟨rfl, H.out.below (Below.refl _ _), Ch.of_below (Below.refl _ _)⟩
set_option maxHeartbeats 400000 in
theorem amplSent_yes_T (a : Nat) (got sent n : Int) (w : World) (h : Lim a got sent true w) (hn : isSz n = true) (hl : n ≤ leftOf got sent true) : Calls Try.prog 17 #[.pointer (some ⟨a, 0, none⟩), .int .i64 n] w fun e w' => e = .returned (.int .i64 0) ∧ Lim a got (add sent n) true w' ∧ Ch a w w' := by
  have c0 : w.cell? ⟨a, 0, none⟩ = some (.int .i64 got) := cellOf h rfl
  have c1 : w.cell? ⟨a, 1, none⟩ = some (.int .i64 sent) := cellOf h rfl
  have c2 : w.cell? ⟨a, 2, none⟩ = some (.bool true) := cellOf h rfl
  have c3 : w.cell? ⟨a, 3, none⟩ = some (.func (Fn.func 71) #[] #[]) := cellOf h rfl
  have f0 : w.frozen? ⟨a, 0, none⟩ = false := freeOf h
  have f1 : w.frozen? ⟨a, 1, none⟩ = false := freeOf h
  have f2 : w.frozen? ⟨a, 2, none⟩ = false := freeOf h
  have f3 : w.frozen? ⟨a, 3, none⟩ = false := freeOf h
  have hlt : a < w.heap.size := lt_of_block h
  have H := Lib.hid h; clear h
  go_enter Try.func17, Try.ntmps17
  go_wp2_with (first | (go_at_call 69; refine (amplNone_T a got sent _ H.out).mono ?_; rintro e w' ⟨rfl, rfl⟩) | (go_at_call 70; refine (amplSize_any _ _).mono ?_; rintro e w' ⟨rfl, rfl⟩))
  refine (all_any _ _).mono ?_
  rintro e w1 ⟨rfl, rfl⟩
  have HB := Lib.hid (show Below w.heap.size w _ from Below.refl _ _)
  have H1 := Lib.hid (H.out.below HB.out)
  have e0 := HB.out.cell (p := ⟨a, 0, none⟩) hlt; have e1 := HB.out.cell (p := ⟨a, 1, none⟩) hlt; have e2 := HB.out.frozen (p := ⟨a, 1, none⟩) hlt
  rw [c0] at e0; rw [c1] at e1; rw [f1] at e2
  have hl' : ¬ (9007199254740991 : Int) < n := by intro x; exact absurd hl (Int.not_le.2 x)
  clear hl
  go_wp2_with (go_at_call 45; refine (add_any _ _ _).mono ?_; rintro e w' ⟨rfl, rfl⟩)
  go_ret
  exact ⟨rfl, set_at H1.out, (Ch.of_below HB.out).trans (Ch.set _ _ _ _)⟩
set_option maxHeartbeats 400000 in
theorem amplValidate_T (a : Nat) (got sent : Int) (w : World) (h : Lim a got sent true w) : Calls Try.prog 18 #[.pointer (some ⟨a, 0, none⟩)] w fun e w' => e = .returned (.int .i64 0) ∧ Lim a got sent true w' ∧ Ch a w w' := by
  have c0 : w.cell? ⟨a, 0, none⟩ = some (.int .i64 got) := cellOf h rfl
  have c1 : w.cell? ⟨a, 1, none⟩ = some (.int .i64 sent) := cellOf h rfl
  have c2 : w.cell? ⟨a, 2, none⟩ = some (.bool true) := cellOf h rfl
  have c3 : w.cell? ⟨a, 3, none⟩ = some (.func (Fn.func 71) #[] #[]) := cellOf h rfl
  have f0 : w.frozen? ⟨a, 0, none⟩ = false := freeOf h
  have f1 : w.frozen? ⟨a, 1, none⟩ = false := freeOf h
  have f2 : w.frozen? ⟨a, 2, none⟩ = false := freeOf h
  have f3 : w.frozen? ⟨a, 3, none⟩ = false := freeOf h
  have hlt : a < w.heap.size := lt_of_block h
  have H := Lib.hid h; clear h
  go_enter Try.func18, Try.ntmps18
  go_wp2_with (go_at_call 69; refine (amplNone_T a got sent _ H.out).mono ?_; rintro e w' ⟨rfl, rfl⟩)
  go_ret
  exact ⟨rfl, set_at (set_at H.out), (Ch.set _ _ _ _).trans (Ch.set _ _ _ _)⟩

end Go.Proofs.Ytnmekhgilekofaa
