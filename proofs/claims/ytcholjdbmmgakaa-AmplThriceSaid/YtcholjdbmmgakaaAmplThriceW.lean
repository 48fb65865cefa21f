/- The walk of AmplThrice. -/
import Derived.Test.YtcholjdbmmgakaaAmplMath
namespace Go.Proofs.Ytcholjdbmmgakaa
open Go.RowKit Sat

set_option maxRecDepth 100000 in
set_option maxHeartbeats 2000000 in
theorem amplThrice_none (w : World) (a0 : Option Addr) (cap : Nat) :
    Calls Try.prog 10 #[.slice a0 0 cap] w fun e w' => e = .returned (.bool true) ∧ Below w.heap.size w w' := by
  have g := Gr.refl w
  go_enter Try.func10, Try.ntmps10
  go_wp2_with fail
  refine (works15_any g).mono ?_
  rintro e w1 ⟨rfl, g1⟩
  go_wp2_with fail
  refine (new_aw _ g1).mono ?_
  rintro e w2 ⟨rfl, g2⟩
  go_wp2_with fail
  go_loopw [4, 5, 6] (fun x y i wr => x = .int .i64 0 ∧ y = .int .i64 0 ∧ i = .int .i64 0 ∧ wr = w2) (fun _ _ _ _ => 0)
  case atStart => exact ⟨rfl, rfl, rfl, rfl⟩
  case round =>
    obtain ⟨rfl, rfl, rfl, rfl⟩ := hrel
    go_wp2_with fail
    go_ret
    exact ⟨rfl, g2.gr.1⟩

set_option maxRecDepth 100000 in
set_option maxHeartbeats 2000000 in
theorem amplThrice_some (w : World) (b off len cap : Nat) (zs : List Int) (hb : b < w.heap.size) (hc : ∀ j, j < len → w.cell? ⟨b, off + j, none⟩ = some (.int .i64 (zs.getD j 0))) (hl : len ≤ 9223372036854775807) (hz : ∀ n ∈ zs, okI n) :
    Calls Try.prog 10 #[.slice (some ⟨b, off, none⟩) len cap] w fun e w' => e = .returned (.bool true) ∧ Below w.heap.size w w' := by
  have HC := Lib.hid hc; clear hc
  have HZ := Lib.hid hz; clear hz
  have g := Gr.refl w
  go_enter Try.func10, Try.ntmps10
  go_wp2_with fail
  refine (works15_any g).mono ?_
  rintro e w1 ⟨rfl, g1⟩
  go_wp2_with fail
  refine (new_aw _ g1).mono ?_
  rintro e w2 ⟨rfl, g2⟩
  go_wp2_with fail
  go_loopw [4, 5, 6] (fun x y i wr => ∃ (k : Nat) (G S : Int), k ≤ len ∧ k ≤ 100 ∧ x = .int .i64 G ∧ y = .int .i64 S ∧ i = .int .i64 k ∧ 0 ≤ G ∧ G ≤ k * 65535 ∧ 0 ≤ S ∧ S ≤ 3 * G ∧ AW w1.heap.size G S false w.heap.size w wr) (fun _ _ i _ => (100 - intOf i).toNat)
  case atStart => exact ⟨0, 0, 0, by omega, by omega, rfl, rfl, rfl, by omega, by omega, by omega, by omega, g2⟩
  case round =>
    obtain ⟨k, G, S, k1, k2, rfl, rfl, rfl, G0, G1, S0, S1, haw⟩ := hrel
    by_cases hlt : k < len ∧ k < 100
    · obtain ⟨hk, hk100⟩ := hlt
      have hcell := (haw.gr.1.cell (p := ⟨b, off + k, none⟩) hb).trans (HC.out k hk)
      have hv := okI_getD HZ.out k
      generalize zs.getD k 0 = v at hcell hv
      have q0 : (0 : Int) ≤ (k : Int) := by omega
      have q1 : (k : Int) < (len : Int) := by omega
      have q2 : (k : Int) < 100 := by omega
      have n0 : 0 ≤ v % 131072 := Int.emod_nonneg _ (by omega)
      have n1 : v % 131072 < 131072 := Int.emod_lt_of_pos _ (by omega)
      have HB := Lib.hid (fun w => bring_any v 131072 w hv (by omega) (by omega))
      obtain ⟨n, hn⟩ : ∃ n, v % 131072 = n := ⟨_, rfl⟩
      rw [hn] at n0 n1 HB
      clear hn
      have m0 : 0 ≤ n / 2 := by omega
      have m1 : n / 2 ≤ 65535 := by omega
      by_cases ho : n % 2 = 1
      · have ho' : (n % 2 == 1) = true := by rw [beq_iff_eq]; exact ho
        clear ho
        obtain ⟨m, hm⟩ : ∃ m, n / 2 = m := ⟨_, rfl⟩
        rw [hm] at m0 m1
        have e1 := gotE_yes m0 m1
        have e2 := gotG_yes m0 m1 G0 (by omega)
        have e3 := left_f (g := G + m) (s := S) (by omega) (by omega) S0 (by omega)
        have e4 : ¬ 3 * (G + m) < S := by omega
        go_wp2_with (first | (go_at_call 57; refine (HB.out _).mono ?_; rintro e w' ⟨rfl, rfl⟩) | (go_at_call 58; refine (got_aw _ (by first | assumption | exact AW.drewN (by assumption) _)).mono ?_; rintro e w' ⟨rfl, _⟩) | (go_at_call 60; refine (totals_aw (by first | assumption | exact AW.drewN (by assumption) _)).mono ?_; rintro e w' ⟨rfl, _⟩) | (go_at_call 61; refine (left_aw (by first | assumption | exact AW.drewN (by assumption) _)).mono ?_; rintro e w' ⟨rfl, _⟩))
        go_roundw
        case rel => exact ⟨k + 1, G + m, S, by omega, by omega, rfl, rfl, by go_num, by omega, by omega, by omega, by omega, by rw [← e2]; assumption⟩
        case measure => simp [intOf]; omega
      · have ho' : (n % 2 == 1) = false := by rw [beq_eq_false_iff_ne]; exact ho
        clear ho
        obtain ⟨m, hm⟩ : ∃ m, n / 2 = m := ⟨_, rfl⟩
        rw [hm] at m0 m1
        have e3 := left_f (g := G) (s := S) G0 (by omega) S0 S1
        by_cases hmay : S + m ≤ 3 * G
        · have e1 := sentE_yes (g := G) (s := S) (v := false) m0 m1 (by omega)
          have e2 := sentS_yes (g := G) (s := S) (v := false) m0 m1 (by omega) S0 (by omega)
          have e5 := left_f (g := G) (s := S + m) G0 (by omega) (by omega) hmay
          have e4 : ¬ 3 * G < S + m := by omega
          go_wp2_with (first | (go_at_call 57; refine (HB.out _).mono ?_; rintro e w' ⟨rfl, rfl⟩) | (go_at_call 59; refine (sent_aw _ (by first | assumption | exact AW.drewN (by assumption) _)).mono ?_; rintro e w' ⟨rfl, _⟩) | (go_at_call 60; refine (totals_aw (by first | assumption | exact AW.drewN (by assumption) _)).mono ?_; rintro e w' ⟨rfl, _⟩) | (go_at_call 61; refine (left_aw (by first | assumption | exact AW.drewN (by assumption) _)).mono ?_; rintro e w' ⟨rfl, _⟩))
          go_roundw
          case rel => exact ⟨k + 1, G, S + m, by omega, by omega, rfl, rfl, by go_num, by omega, by omega, by omega, by omega, by rw [← e2]; assumption⟩
          case measure => simp [intOf]; omega
        · have e1 := sentE_much (g := G) (s := S) (n := m) (v := false) m0 m1 (by omega)
          have e2 := sentS_much (g := G) (s := S) (n := m) (v := false) m0 m1 (by omega)
          have e4 : ¬ 3 * G < S := by omega
          go_wp2_with (first | (go_at_call 57; refine (HB.out _).mono ?_; rintro e w' ⟨rfl, rfl⟩) | (go_at_call 59; refine (sent_aw _ (by first | assumption | exact AW.drewN (by assumption) _)).mono ?_; rintro e w' ⟨rfl, _⟩) | (go_at_call 60; refine (totals_aw (by first | assumption | exact AW.drewN (by assumption) _)).mono ?_; rintro e w' ⟨rfl, _⟩) | (go_at_call 61; refine (left_aw (by first | assumption | exact AW.drewN (by assumption) _)).mono ?_; rintro e w' ⟨rfl, _⟩))
          go_roundw
          case rel => exact ⟨k + 1, G, S, by omega, by omega, rfl, rfl, by go_num, by omega, by omega, by omega, by omega, by have hx := ‹AW w1.heap.size G (sentS G S false m) false w.heap.size w _›; rw [e2] at hx; exact hx⟩
          case measure => simp [intOf]; omega
    · have HG := Lib.hid haw.gr.1
      by_cases hk : k < len
      · have q1 : (k : Int) < (len : Int) := by omega
        have q2 : ¬ (k : Int) < 100 := by omega
        clear hlt
        go_wp2_with fail
        go_ret
        exact ⟨rfl, HG.out⟩
      · have q1 : ¬ (k : Int) < (len : Int) := by omega
        clear hlt
        go_wp2_with fail
        go_ret
        exact ⟨rfl, HG.out⟩

theorem amplThrice_walk (w : World) (a : Option Addr) (len cap : Nat) (zs : List Int) (hr : Row 1 w a len zs) (hl : len ≤ 9223372036854775807) (hz : ∀ n ∈ zs, okI n) :
    Calls Try.prog 10 #[.slice a len cap] w fun e w' => e = .returned (.bool true) ∧ Below w.heap.size w w' := by
  rcases hr with ⟨rfl, _⟩ | ⟨b, off, rfl, hb, _, hc⟩
  · exact amplThrice_none w a cap
  · exact amplThrice_some w b off len cap zs hb (fun j hj => hc j (by omega)) hl hz

end Go.Proofs.Ytcholjdbmmgakaa
