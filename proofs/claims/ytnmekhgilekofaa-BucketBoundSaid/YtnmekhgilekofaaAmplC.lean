/- A limit through a law: what each call answers, and that the limit stands behind it; sounderlaw15.works; Bring. -/
import Derived.Test.YtnmekhgilekofaaAmplB
import Derived.Test.YtnmekhgilekofaaOpen
namespace Go.Proofs.Ytnmekhgilekofaa
open Go.RowKit Sat

/-- Limit a lies in memory of the call's own. -/
def AW (a : Nat) (got sent : Int) (valid : Bool) (B : Nat) (w0 w : World) : Prop := Lim a got sent valid w ∧ Gr B w0 w ∧ B ≤ a
section
variable {a : Nat} {got sent : Int} {valid : Bool} {B : Nat} {w0 w w' : World}
theorem AW.step (h : AW a got sent valid B w0 w) (g : Below w.heap.size w w') : AW a got sent valid B w0 w' := ⟨h.1.below g, h.2.1.step g, h.2.2⟩
theorem AW.drewN (h : AW a got sent valid B w0 w) (n : Nat) : AW a got sent valid B w0 (w.drewN n) := ⟨h.1, h.2.1.drewN n, h.2.2⟩
theorem AW.drew (h : AW a got sent valid B w0 w) : AW a got sent valid B w0 w.drew := ⟨h.1, h.2.1.drew, h.2.2⟩
theorem AW.gr (h : AW a got sent valid B w0 w) : Gr B w0 w := h.2.1
theorem AW.ch {got' sent' : Int} {valid' : Bool} (h : AW a got sent valid B w0 w) (g : Ch a w w') (l : Lim a got' sent' valid' w') : AW a got' sent' valid' B w0 w' := ⟨l, h.2.1.ch g h.2.2, h.2.2⟩
theorem new_aw (v : Bool) (h : Gr B w0 w) : Calls Try.prog 23 #[.bool v] w fun e w' => e = .returned (.pointer (some ⟨w.heap.size, 0, none⟩)) ∧ AW w.heap.size 0 0 v B w0 w' :=
  (amplNew_any v w).mono fun _ _ ⟨he, hl, hb⟩ => ⟨he, hl, h.step hb, h.2⟩
theorem got_aw (n : Int) (h : AW a got sent valid B w0 w) : Calls Try.prog 16 #[.pointer (some ⟨a, 0, none⟩), .int .i64 n] w fun e w' => e = .returned (.int .i64 (gotE n)) ∧ AW a (gotG got n) sent valid B w0 w' :=
  (amplGot_any a got sent valid n w h.1).mono fun _ _ ⟨he, hl, hc⟩ => ⟨he, h.ch hc hl⟩
theorem sent_aw (n : Int) (h : AW a got sent valid B w0 w) : Calls Try.prog 17 #[.pointer (some ⟨a, 0, none⟩), .int .i64 n] w fun e w' => e = .returned (.int .i64 (sentE got sent valid n)) ∧ AW a got (sentS got sent valid n) valid B w0 w' :=
  (amplSent_any a got sent valid n w h.1).mono fun _ _ ⟨he, hl, hc⟩ => ⟨he, h.ch hc hl⟩
theorem validate_aw (h : AW a got sent valid B w0 w) : Calls Try.prog 18 #[.pointer (some ⟨a, 0, none⟩)] w fun e w' => e = .returned (.int .i64 0) ∧ AW a got sent true B w0 w' :=
  (amplValidate_any a got sent valid w h.1).mono fun _ _ ⟨he, hl, hc⟩ => ⟨he, h.ch hc hl⟩
theorem left_aw (h : AW a got sent valid B w0 w) : Calls Try.prog 20 #[.pointer (some ⟨a, 0, none⟩)] w fun e w' => e = .returned (.int .i64 (leftOf got sent valid)) ∧ AW a got sent valid B w0 w' :=
  (amplLeft_any a got sent valid w h.1).mono fun _ _ ⟨he, hb⟩ => ⟨he, h.step hb⟩
theorem can_aw (n : Int) (h : AW a got sent valid B w0 w) : Calls Try.prog 21 #[.pointer (some ⟨a, 0, none⟩), .int .i64 n] w fun e w' => e = .returned (.bool (canB got sent valid n)) ∧ AW a got sent valid B w0 w' :=
  (amplCan_any a got sent valid n w h.1).mono fun _ _ ⟨he, hb⟩ => ⟨he, h.step hb⟩
theorem valid_aw (h : AW a got sent valid B w0 w) : Calls Try.prog 19 #[.pointer (some ⟨a, 0, none⟩)] w fun e w' => e = .returned (.bool valid) ∧ AW a got sent valid B w0 w' :=
  (amplValid_any a got sent valid w h.1).mono fun _ _ ⟨he, hb⟩ => ⟨he, hb ▸ h⟩
theorem totals_aw (h : AW a got sent valid B w0 w) : Calls Try.prog 15 #[.pointer (some ⟨a, 0, none⟩)] w fun e w' => e = .returned (.tuple #[.int .i64 got, .int .i64 sent]) ∧ AW a got sent valid B w0 w' :=
  (amplTotals_any a got sent valid w h.1).mono fun _ _ ⟨he, n, hb⟩ => ⟨he, hb ▸ h.drewN n⟩
end

set_option maxHeartbeats 1000000 in
theorem works15_any {B : Nat} {w0 w : World} (h : Gr B w0 w) : Calls Try.prog 24 #[] w fun e w' => e = .returned (.bool true) ∧ Gr B w0 w' := by
  have f0 : sentE 0 0 false 1 = 212 := by decide +kernel
  have f1 : sentS 0 0 false 1 = 0 := by decide +kernel
  have f2 : gotE 1200 = 0 := by decide +kernel
  have f3 : gotG 0 1200 = 1200 := by decide +kernel
  have f4 : leftOf 1200 0 false = 3600 := by decide +kernel
  have f5 : sentE 1200 0 false 3600 = 0 := by decide +kernel
  have f6 : sentS 1200 0 false 3600 = 3600 := by decide +kernel
  have f7 : sentE 1200 3600 false 1 = 212 := by decide +kernel
  have f8 : sentS 1200 3600 false 1 = 3600 := by decide +kernel
  have f9 : gotE 65536 = 2 := by decide +kernel
  have f10 : gotG 1200 65536 = 1200 := by decide +kernel
  have f11 : leftOf 1200 3600 true = 9007199254740991 := by decide +kernel
  have f12 : sentE 1200 3600 true 65535 = 0 := by decide +kernel
  have f13 : sentS 1200 3600 true 65535 = 69135 := by decide +kernel
  go_enter Try.func24, Try.ntmps24
  go_wp2_with (first | (go_at_call 23; refine (new_aw _ (by first | assumption | exact Gr.drewN (by assumption) _ | exact AW.gr (by assumption))).mono ?_; rintro e w' ⟨rfl, _⟩) | (go_at_call 16; refine (got_aw _ (by first | assumption | exact AW.drewN (by assumption) _)).mono ?_; rintro e w' ⟨rfl, _⟩) | (go_at_call 17; refine (sent_aw _ (by first | assumption | exact AW.drewN (by assumption) _)).mono ?_; rintro e w' ⟨rfl, _⟩) | (go_at_call 20; refine (left_aw (by first | assumption | exact AW.drewN (by assumption) _)).mono ?_; rintro e w' ⟨rfl, _⟩) | (go_at_call 18; refine (validate_aw (by first | assumption | exact AW.drewN (by assumption) _)).mono ?_; rintro e w' ⟨rfl, _⟩) | (go_at_call 15; refine (totals_aw (by first | assumption | exact AW.drewN (by assumption) _)).mono ?_; rintro e w' ⟨rfl, _⟩))
  go_ret
  rename_i g
  exact ⟨rfl, g.gr⟩

/-- Bring, of a number above 0. -/
theorem bring_any (i n : Int) (w : World) (hi : okI i) (h0 : 0 < n) (h1 : n ≤ 9223372036854775807) : Calls Try.prog 26 #[.int .i64 i, .int .i64 n] w fun e w' => e = .returned (.int .i64 (i % n)) ∧ w = w' := by
  obtain ⟨i0, i1⟩ := hi
  have hn : ¬ n = 0 := by omega
  have m0 : 0 ≤ i % n := Int.emod_nonneg _ hn
  have m1 : i % n < n := Int.emod_lt_of_pos _ h0
  by_cases hp : 0 ≤ i
  · have m2 : ¬ i % n < 0 := by omega
    go_enter Try.func26, Try.ntmps26
    go_wp2
    go_ret
    exact ⟨rfl, rfl⟩
  · have ht : i.tmod n = -((-i) % n) := by
      have := Int.tmod_eq_emod_of_nonneg (a := -i) (b := n) (by omega)
      rw [Int.neg_tmod] at this; omega
    have k0 : 0 ≤ (-i) % n := Int.emod_nonneg _ hn
    have k1 : (-i) % n < n := Int.emod_lt_of_pos _ h0
    by_cases hz : (-i) % n = 0
    · have e : i % n = 0 := by
        have d : n ∣ -i := Int.dvd_of_emod_eq_zero hz
        exact Int.emod_eq_zero_of_dvd (Int.dvd_neg.1 d)
      rw [hz] at ht
      have ht' : i.tmod n = 0 := by omega
      rw [e]; clear ht k0 k1 e hz m0 m1
      go_enter Try.func26, Try.ntmps26
      go_wp2
      go_ret
      exact ⟨rfl, rfl⟩
    · obtain ⟨k, hk⟩ : ∃ k, (-i) % n = k := ⟨_, rfl⟩
      rw [hk] at ht k0 k1 hz
      have e : i % n = n - k := by
        have h2 := Int.mul_ediv_add_emod (-i) n
        rw [hk] at h2
        have h3 : i = (n - k) + n * (-((-i) / n) - 1) := by rw [Int.mul_sub, Int.mul_neg]; omega
        rw [h3, Int.add_mul_emod_self_left]
        exact Int.emod_eq_of_lt (by omega) (by omega)
      rw [e]; clear hk e m0 m1
      have kk : 1 ≤ k := by omega
      go_enter Try.func26, Try.ntmps26
      go_wp2
      go_ret
      exact ⟨ret_int (by omega), rfl⟩

end Go.Proofs.Ytnmekhgilekofaa
