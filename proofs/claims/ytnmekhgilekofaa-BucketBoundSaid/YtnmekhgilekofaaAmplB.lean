/- What the methods of package ampl and of its reference answer: one contract each. -/
import Derived.Test.YtnmekhgilekofaaAmpl
namespace Go.Proofs.Ytnmekhgilekofaa
open Go.RowKit Sat

def gotE (n : Int) : Int := if isSz n then 0 else 2
def gotG (got n : Int) : Int := if isSz n then add got n else got
def sentE (got sent : Int) (valid : Bool) (n : Int) : Int := if isSz n then (if leftOf got sent valid < n then 212 else 0) else 2
def sentS (got sent : Int) (valid : Bool) (n : Int) : Int := if isSz n then (if leftOf got sent valid < n then sent else add sent n) else sent
def canB (got sent : Int) (valid : Bool) (n : Int) : Bool := isSz n && decide (n ≤ leftOf got sent valid)

theorem amplLeft_any (a : Nat) (got sent : Int) (valid : Bool) (w : World) (h : Lim a got sent valid w) : Calls Try.prog 20 #[.pointer (some ⟨a, 0, none⟩)] w fun e w' => e = .returned (.int .i64 (leftOf got sent valid)) ∧ Below w.heap.size w w' := by
  cases valid
  · exact amplLeft_F a got sent w h
  · exact amplLeft_T a got sent w h
theorem amplCan_any (a : Nat) (got sent : Int) (valid : Bool) (n : Int) (w : World) (h : Lim a got sent valid w) : Calls Try.prog 21 #[.pointer (some ⟨a, 0, none⟩), .int .i64 n] w fun e w' => e = .returned (.bool (canB got sent valid n)) ∧ Below w.heap.size w w' := by
  unfold canB
  rcases hn : isSz n with _ | _ <;> cases valid
  · exact amplCan_no_F a got sent n w h hn
  · exact amplCan_no_T a got sent n w h hn
  · exact amplCan_yes_F a got sent n w h hn
  · exact amplCan_yes_T a got sent n w h hn
theorem amplValid_any (a : Nat) (got sent : Int) (valid : Bool) (w : World) (h : Lim a got sent valid w) : Calls Try.prog 19 #[.pointer (some ⟨a, 0, none⟩)] w fun e w' => e = .returned (.bool valid) ∧ w = w' := by
  cases valid
  · exact amplValid_F a got sent w h
  · exact amplValid_T a got sent w h
theorem amplTotals_any (a : Nat) (got sent : Int) (valid : Bool) (w : World) (h : Lim a got sent valid w) : Calls Try.prog 15 #[.pointer (some ⟨a, 0, none⟩)] w fun e w' => e = .returned (.tuple #[.int .i64 got, .int .i64 sent]) ∧ ∃ n, w' = w.drewN n := by
  cases valid
  · exact amplTotals_F a got sent w h
  · exact amplTotals_T a got sent w h
theorem amplCopy_any (a : Nat) (got sent : Int) (valid : Bool) (w : World) (h : Lim a got sent valid w) : Calls Try.prog 22 #[.pointer (some ⟨a, 0, none⟩)] w fun e w' => e = .returned (.pointer (some ⟨w.heap.size, 0, none⟩)) ∧ Lim w.heap.size got sent valid w' ∧ Below w.heap.size w w' := by
  cases valid
  · exact amplCopy_F a got sent w h
  · exact amplCopy_T a got sent w h
theorem amplGot_any (a : Nat) (got sent : Int) (valid : Bool) (n : Int) (w : World) (h : Lim a got sent valid w) : Calls Try.prog 16 #[.pointer (some ⟨a, 0, none⟩), .int .i64 n] w fun e w' => e = .returned (.int .i64 (gotE n)) ∧ Lim a (gotG got n) sent valid w' ∧ Ch a w w' := by
  unfold gotE gotG
  rcases hn : isSz n with _ | _
  · refine Calls.mono (R := fun e w' => e = .returned (.int .i64 2) ∧ w = w') ?_ (fun e w' ⟨he, hw⟩ => ⟨he, hw ▸ h, hw ▸ Ch.refl _ _⟩)
    cases valid
    · exact amplGot_no_F a got sent n w h hn
    · exact amplGot_no_T a got sent n w h hn
  · cases valid
    · exact amplGot_yes_F a got sent n w h hn
    · exact amplGot_yes_T a got sent n w h hn
theorem amplSent_any (a : Nat) (got sent : Int) (valid : Bool) (n : Int) (w : World) (h : Lim a got sent valid w) : Calls Try.prog 17 #[.pointer (some ⟨a, 0, none⟩), .int .i64 n] w fun e w' => e = .returned (.int .i64 (sentE got sent valid n)) ∧ Lim a got (sentS got sent valid n) valid w' ∧ Ch a w w' := by
  unfold sentE sentS
  rcases hn : isSz n with _ | _
  · refine Calls.mono (R := fun e w' => e = .returned (.int .i64 2) ∧ w = w') ?_ (fun e w' ⟨he, hw⟩ => ⟨he, hw ▸ h, hw ▸ Ch.refl _ _⟩)
    cases valid
    · exact amplSent_no_F a got sent n w h hn
    · exact amplSent_no_T a got sent n w h hn
  · by_cases hl : leftOf got sent valid < n
    · rw [if_pos hl, if_pos hl]
      cases valid
      · exact amplSent_much_F a got sent n w h hn hl
      · exact amplSent_much_T a got sent n w h hn hl
    · rw [if_neg hl, if_neg hl]
      cases valid
      · exact amplSent_yes_F a got sent n w h hn (by omega)
      · exact amplSent_yes_T a got sent n w h hn (by omega)
theorem amplValidate_any (a : Nat) (got sent : Int) (valid : Bool) (w : World) (h : Lim a got sent valid w) : Calls Try.prog 18 #[.pointer (some ⟨a, 0, none⟩)] w fun e w' => e = .returned (.int .i64 0) ∧ Lim a got sent true w' ∧ Ch a w w' := by
  cases valid
  · exact amplValidate_F a got sent w h
  · exact amplValidate_T a got sent w h
theorem amplNew_F (w : World) : Calls Try.prog 23 #[.bool false] w fun e w' => e = .returned (.pointer (some ⟨w.heap.size, 0, none⟩)) ∧ Lim w.heap.size 0 0 false w' ∧ Below w.heap.size w w' := by
  go_enter Try.func23, Try.ntmps23
  go_wp2
  go_ret
  exact ⟨rfl, new_at _ _, (Below.refl _ _).alloc (Nat.le_refl _) _⟩
theorem amplNew_T (w : World) : Calls Try.prog 23 #[.bool true] w fun e w' => e = .returned (.pointer (some ⟨w.heap.size, 0, none⟩)) ∧ Lim w.heap.size 0 0 true w' ∧ Below w.heap.size w w' := by
  go_enter Try.func23, Try.ntmps23
  go_wp2_with fail
  refine (amplValidate_F w.heap.size 0 0 _ (new_at _ _)).mono ?_
  rintro e w1 ⟨rfl, h1, h2⟩
  go_wp2_with fail
  go_ret
  have b : Below w.heap.size w (w.alloc (.cells #[.int .i64 0, .int .i64 0, .bool false, .func (Fn.func 72) #[] #[]] 43 (0, 0))) := (Below.refl _ _).alloc (Nat.le_refl _) _
  exact ⟨rfl, h1, h2.below b (Nat.le_refl _) (by simp)⟩
theorem amplNew_any (valid : Bool) (w : World) : Calls Try.prog 23 #[.bool valid] w fun e w' => e = .returned (.pointer (some ⟨w.heap.size, 0, none⟩)) ∧ Lim w.heap.size 0 0 valid w' ∧ Below w.heap.size w w' := by
  cases valid
  · exact amplNew_F w
  · exact amplNew_T w

/-! The reference. -/
def RLim (a : Nat) (got sent : Int) (valid : Bool) (w : World) : Prop := w.heap[a]? = some (.cells #[.int .i64 got, .int .i64 sent, .bool valid] 97 (0, 0))
theorem r15New_any (valid : Bool) (w : World) : Calls Try.prog 63 #[.bool valid] w fun e w' => e = .returned (.pointer (some ⟨w.heap.size, 0, none⟩)) ∧ RLim w.heap.size 0 0 valid w' ∧ Below w.heap.size w w' := by
  go_enter Try.func63, Try.ntmps63
  go_wp2
  go_ret
  exact ⟨rfl, new_at _ _, (Below.refl _ _).alloc (Nat.le_refl _) _⟩
theorem r15Copy_any (a : Nat) (got sent : Int) (valid : Bool) (w : World) (h : RLim a got sent valid w) : Calls Try.prog 66 #[.pointer (some ⟨a, 0, none⟩)] w fun e w' => e = .returned (.pointer (some ⟨w.heap.size, 0, none⟩)) ∧ RLim w.heap.size got sent valid w' ∧ Below w.heap.size w w' := by
  have c0 : w.cell? ⟨a, 0, none⟩ = some (.int .i64 got) := cellOf h rfl
  have c1 : w.cell? ⟨a, 1, none⟩ = some (.int .i64 sent) := cellOf h rfl
  have c2 : w.cell? ⟨a, 2, none⟩ = some (.bool valid) := cellOf h rfl
  have f0 : w.frozen? ⟨a, 0, none⟩ = false := freeOf h
  have f1 : w.frozen? ⟨a, 1, none⟩ = false := freeOf h
  have f2 : w.frozen? ⟨a, 2, none⟩ = false := freeOf h
  have hlt : a < w.heap.size := lt_of_block h
  have H := Lib.hid h; clear h
  go_enter Try.func66, Try.ntmps66
  go_wp2
  go_ret
  exact ⟨rfl, new_at _ _, (Below.refl _ _).alloc (Nat.le_refl _) _⟩
theorem r15Validate_any (a : Nat) (got sent : Int) (valid : Bool) (w : World) (h : RLim a got sent valid w) : Calls Try.prog 68 #[.pointer (some ⟨a, 0, none⟩)] w fun e w' => e = .returned (.int .i64 0) ∧ RLim a got sent true w' ∧ Ch a w w' := by
  have c0 : w.cell? ⟨a, 0, none⟩ = some (.int .i64 got) := cellOf h rfl
  have c1 : w.cell? ⟨a, 1, none⟩ = some (.int .i64 sent) := cellOf h rfl
  have c2 : w.cell? ⟨a, 2, none⟩ = some (.bool valid) := cellOf h rfl
  have f0 : w.frozen? ⟨a, 0, none⟩ = false := freeOf h
  have f1 : w.frozen? ⟨a, 1, none⟩ = false := freeOf h
  have f2 : w.frozen? ⟨a, 2, none⟩ = false := freeOf h
  have hlt : a < w.heap.size := lt_of_block h
  have H := Lib.hid h; clear h
  go_enter Try.func68, Try.ntmps68
  go_wp2
  go_ret
  exact ⟨rfl, set_at H.out, Ch.set _ _ _ _⟩
theorem r15Left_any (a : Nat) (got sent : Int) (valid : Bool) (w : World) (h : RLim a got sent valid w) : Calls Try.prog 95 #[.pointer (some ⟨a, 0, none⟩)] w fun e w' => e = .returned (.int .i64 (leftOf got sent valid)) ∧ Below w.heap.size w w' := by
  have c0 : w.cell? ⟨a, 0, none⟩ = some (.int .i64 got) := cellOf h rfl
  have c1 : w.cell? ⟨a, 1, none⟩ = some (.int .i64 sent) := cellOf h rfl
  have c2 : w.cell? ⟨a, 2, none⟩ = some (.bool valid) := cellOf h rfl
  have f0 : w.frozen? ⟨a, 0, none⟩ = false := freeOf h
  have f1 : w.frozen? ⟨a, 1, none⟩ = false := freeOf h
  have f2 : w.frozen? ⟨a, 2, none⟩ = false := freeOf h
  have hlt : a < w.heap.size := lt_of_block h
  have H := Lib.hid h; clear h
  cases valid
  · go_enter Try.func95, Try.ntmps95
    go_wp2_with fail
    go_quiet ((first | (go_at_call 54; exact Calls.quiet_of_same ((rmul_any _ _ _).mono fun _ _ ⟨x, y⟩ => ⟨x, y.symm⟩)) | (go_at_call 52; exact Calls.quiet_of_same ((rsub_any _ _ _).mono fun _ _ ⟨x, y⟩ => ⟨x, y.symm⟩))))
    go_wp2_with fail
    go_ret
    exact ⟨rfl, below_drewN (Below.refl _ _) _⟩
  · go_enter Try.func95, Try.ntmps95
    go_wp2_with fail
    go_ret
    exact ⟨rfl, Below.refl _ _⟩
theorem r15Got_any (a : Nat) (got sent : Int) (valid : Bool) (n : Int) (w : World) (h : RLim a got sent valid w) : Calls Try.prog 64 #[.pointer (some ⟨a, 0, none⟩), .int .i64 n] w fun e w' => e = .returned (.int .i64 (gotE n)) ∧ RLim a (gotG got n) sent valid w' ∧ Ch a w w' := by
  unfold gotE gotG
  by_cases hn : 0 ≤ n ∧ n ≤ 65535
  · rw [isSz_yes hn.1 hn.2]
    obtain ⟨n0, n1⟩ := hn
    have c0 : w.cell? ⟨a, 0, none⟩ = some (.int .i64 got) := cellOf h rfl
    have c1 : w.cell? ⟨a, 1, none⟩ = some (.int .i64 sent) := cellOf h rfl
    have c2 : w.cell? ⟨a, 2, none⟩ = some (.bool valid) := cellOf h rfl
    have f0 : w.frozen? ⟨a, 0, none⟩ = false := freeOf h
    have f1 : w.frozen? ⟨a, 1, none⟩ = false := freeOf h
    have f2 : w.frozen? ⟨a, 2, none⟩ = false := freeOf h
    have hlt : a < w.heap.size := lt_of_block h
    have H := Lib.hid h; clear h
    go_enter Try.func64, Try.ntmps64
    go_wp2_with (go_at_call 50; refine (radd_any _ _ _).mono ?_; rintro e w' ⟨rfl, rfl⟩)
    go_ret
    exact ⟨rfl, set_at H.out, Ch.set _ _ _ _⟩
  · rw [show isSz n = false from decide_eq_false hn]
    have hs : n < 0 ∨ 65535 < n := by omega
    clear hn
    have c0 : w.cell? ⟨a, 0, none⟩ = some (.int .i64 got) := cellOf h rfl
    have c1 : w.cell? ⟨a, 1, none⟩ = some (.int .i64 sent) := cellOf h rfl
    have c2 : w.cell? ⟨a, 2, none⟩ = some (.bool valid) := cellOf h rfl
    have f0 : w.frozen? ⟨a, 0, none⟩ = false := freeOf h
    have f1 : w.frozen? ⟨a, 1, none⟩ = false := freeOf h
    have f2 : w.frozen? ⟨a, 2, none⟩ = false := freeOf h
    have hlt : a < w.heap.size := lt_of_block h
    have H := Lib.hid h; clear h
    rcases hs with hs | hs
    · go_enter Try.func64, Try.ntmps64
      go_wp2
      go_ret
      exact ⟨rfl, H.out, Ch.refl _ _⟩
    · have hs0 : ¬ n < 0 := by omega
      go_enter Try.func64, Try.ntmps64
      go_wp2
      go_ret
      exact ⟨rfl, H.out, Ch.refl _ _⟩
theorem RLim.below {a : Nat} {got sent : Int} {valid : Bool} {w w' : World} (h : RLim a got sent valid w) (g : Below w.heap.size w w') : RLim a got sent valid w' := at_old g (lt_of_block h) h
set_option maxHeartbeats 400000 in
theorem r15Sent_any (a : Nat) (got sent : Int) (valid : Bool) (n : Int) (w : World) (h : RLim a got sent valid w) : Calls Try.prog 65 #[.pointer (some ⟨a, 0, none⟩), .int .i64 n] w fun e w' => e = .returned (.int .i64 (sentE got sent valid n)) ∧ RLim a got (sentS got sent valid n) valid w' ∧ Ch a w w' := by
  unfold sentE sentS
  by_cases hn : 0 ≤ n ∧ n ≤ 65535
  · rw [isSz_yes hn.1 hn.2]
    obtain ⟨n0, n1⟩ := hn
    have c0 : w.cell? ⟨a, 0, none⟩ = some (.int .i64 got) := cellOf h rfl
    have c1 : w.cell? ⟨a, 1, none⟩ = some (.int .i64 sent) := cellOf h rfl
    have c2 : w.cell? ⟨a, 2, none⟩ = some (.bool valid) := cellOf h rfl
    have f0 : w.frozen? ⟨a, 0, none⟩ = false := freeOf h
    have f1 : w.frozen? ⟨a, 1, none⟩ = false := freeOf h
    have f2 : w.frozen? ⟨a, 2, none⟩ = false := freeOf h
    have hlt : a < w.heap.size := lt_of_block h
    have H := Lib.hid h; clear h
    by_cases hl : leftOf got sent valid < n
    · rw [if_pos hl, if_pos hl]
      go_enter Try.func65, Try.ntmps65
      go_wp2_with fail
      refine (r15Left_any a got sent valid _ H.out).mono ?_
      rintro e w1 ⟨rfl, hb⟩
      have HB := Lib.hid hb; clear hb
      go_wp2_with fail
      go_ret
      exact ⟨rfl, H.out.below HB.out, Ch.of_below HB.out⟩
    · rw [if_neg hl, if_neg hl]
      go_enter Try.func65, Try.ntmps65
      go_wp2_with fail
      refine (r15Left_any a got sent valid _ H.out).mono ?_
      rintro e w1 ⟨rfl, hb⟩
      have HB := Lib.hid hb
      have e0 := hb.cell (p := ⟨a, 0, none⟩) hlt; have e1 := hb.cell (p := ⟨a, 1, none⟩) hlt; have e2 := hb.frozen (p := ⟨a, 1, none⟩) hlt
      rw [c0] at e0; rw [c1] at e1; rw [f1] at e2
      clear hb
      go_wp2_with (go_at_call 50; refine (radd_any _ _ _).mono ?_; rintro e w' ⟨rfl, rfl⟩)
      go_ret
      exact ⟨rfl, set_at (H.out.below HB.out), (Ch.of_below HB.out).trans (Ch.set _ _ _ _)⟩
  · rw [show isSz n = false from decide_eq_false hn]
    have hs : n < 0 ∨ 65535 < n := by omega
    clear hn
    have c0 : w.cell? ⟨a, 0, none⟩ = some (.int .i64 got) := cellOf h rfl
    have c1 : w.cell? ⟨a, 1, none⟩ = some (.int .i64 sent) := cellOf h rfl
    have c2 : w.cell? ⟨a, 2, none⟩ = some (.bool valid) := cellOf h rfl
    have f0 : w.frozen? ⟨a, 0, none⟩ = false := freeOf h
    have f1 : w.frozen? ⟨a, 1, none⟩ = false := freeOf h
    have f2 : w.frozen? ⟨a, 2, none⟩ = false := freeOf h
    have hlt : a < w.heap.size := lt_of_block h
    have H := Lib.hid h; clear h
    rcases hs with hs | hs
    · go_enter Try.func65, Try.ntmps65
      go_wp2
      go_ret
      exact ⟨rfl, H.out, Ch.refl _ _⟩
    · have hs0 : ¬ n < 0 := by omega
      go_enter Try.func65, Try.ntmps65
      go_wp2
      go_ret
      exact ⟨rfl, H.out, Ch.refl _ _⟩
theorem r15Can_any (a : Nat) (got sent : Int) (valid : Bool) (n : Int) (w : World) (h : RLim a got sent valid w) : Calls Try.prog 96 #[.pointer (some ⟨a, 0, none⟩), .int .i64 n] w fun e w' => e = .returned (.bool (canB got sent valid n)) ∧ Below w.heap.size w w' := by
  unfold canB
  by_cases hn : 0 ≤ n ∧ n ≤ 65535
  · rw [isSz_yes hn.1 hn.2]
    obtain ⟨n0, n1⟩ := hn
    go_enter Try.func96, Try.ntmps96
    go_wp2_with fail
    refine (r15Left_any a got sent valid _ h).mono ?_
    rintro e w1 ⟨rfl, hb⟩
    have HB := Lib.hid hb; clear hb
    go_wp2_with fail
    go_ret
    exact ⟨rfl, HB.out⟩
  · rw [show isSz n = false from decide_eq_false hn]
    have hs : n < 0 ∨ 65535 < n := by omega
    clear hn
    rcases hs with hs | hs
    · have hs0 : ¬ 0 ≤ n := by omega
      go_enter Try.func96, Try.ntmps96
      go_wp2
      go_ret
      exact ⟨rfl, Below.refl _ _⟩
    · have hs0 : ¬ n ≤ 65535 := by omega
      have hs1 : 0 ≤ n := by omega
      go_enter Try.func96, Try.ntmps96
      go_wp2
      go_ret
      exact ⟨rfl, Below.refl _ _⟩

end Go.Proofs.Ytnmekhgilekofaa
