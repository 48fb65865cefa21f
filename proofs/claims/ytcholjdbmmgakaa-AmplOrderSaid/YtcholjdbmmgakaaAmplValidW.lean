/- The walk of AmplValid. -/
import Derived.Test.YtcholjdbmmgakaaAmplRisesW
namespace Go.Proofs.Ytcholjdbmmgakaa
open Go.RowKit Sat

theorem sentS_some {G S n : Int} (n0 : 0 ≤ n) (n1 : n ≤ 65535) (G0 : 0 ≤ G) (G1 : G ≤ 3002399751580330) (S0 : 0 ≤ S) (S1 : S ≤ 3 * G) : 0 ≤ sentS G S false n ∧ sentS G S false n ≤ 3 * G := by
  have l := left_f G0 G1 S0 S1
  by_cases h : n ≤ leftOf G S false
  · rw [sentS_yes n0 n1 h S0 (by omega)]; omega
  · rw [sentS_much n0 n1 (by omega)]; omega
theorem tdiv2_ok {v : Int} (h : okI v) : -4611686018427387904 ≤ v.tdiv 2 ∧ v.tdiv 2 ≤ 4611686018427387903 := by
  obtain ⟨h0, h1⟩ := h
  rcases Int.lt_or_le v 0 with h | h
  · have e := Int.tdiv_eq_ediv_of_nonneg (a := -v) (b := 2) (by omega)
    rw [Int.neg_tdiv] at e; omega
  · rw [Int.tdiv_eq_ediv_of_nonneg h]; omega

set_option maxRecDepth 100000 in
set_option maxHeartbeats 4000000 in
theorem amplValid_none_none (w : World) (a : Option Addr) (cap : Nat) (a' : Option Addr) (cap' : Nat) :
    Calls Try.prog 13 #[.slice a 0 cap, .slice a' 0 cap'] w fun e w' => e = .returned (.bool true) ∧ Below w.heap.size w w' := by
  have g := Gr.refl w
  go_enter Try.func13, Try.ntmps13
  go_wp2_with fail
  refine (new_aw _ g).mono ?_
  rintro e w2 ⟨rfl, g2⟩
  go_wp2_with fail
  go_loopw [6] (fun i wr => i = .int .i64 0 ∧ wr = w2) (fun _ _ => 0)
  case atStart => exact ⟨rfl, rfl⟩
  case round =>
    obtain ⟨rfl, rfl⟩ := hrel
    obtain ⟨G, S, hG, hS, g2⟩ : ∃ G S : Int, G = 0 ∧ S = 0 ∧ AW w.heap.size G S false w.heap.size w wr := ⟨0, 0, rfl, rfl, g2⟩
    have G0 : 0 ≤ G := by omega
    have G2 : G ≤ 1966050 := by omega
    have S0 : 0 ≤ S := by omega
    have S1 : S ≤ 3 * G := by omega
    clear hG hS
    go_wp2_with (first | (go_at_call 60; refine (totals_aw (by first | assumption | exact AW.drewN (by assumption) _)).mono ?_; rintro e w' ⟨rfl, _⟩) | (go_at_call 64; refine (valid_aw (by first | assumption | exact AW.drewN (by assumption) _)).mono ?_; rintro e w' ⟨rfl, _⟩) | (go_at_call 65; refine (validate_aw (by first | assumption | exact AW.drewN (by assumption) _)).mono ?_; rintro e w' ⟨rfl, _⟩))
    go_loopw [8, 9] (fun s i wr => s = .int .i64 S ∧ i = .int .i64 0 ∧ AW w.heap.size G S true w.heap.size w wr) (fun _ _ _ => 0)
    case atStart => exact ⟨rfl, rfl, by assumption⟩
    case round =>
      obtain ⟨rfl, rfl, haw⟩ := hrel
      have f1 := canB_yes (g := G) (s := S) (v := true) (n := 65535) (by omega) (by omega) (by rw [left_t]; omega)
      have f2 : canB G S true 65536 = false := by unfold canB; rfl
      go_wp2_with (first | (go_at_call 60; refine (totals_aw (by first | assumption | exact AW.drewN (by assumption) _)).mono ?_; rintro e w' ⟨rfl, _⟩) | (go_at_call 63; refine (can_aw _ (by first | assumption | exact AW.drewN (by assumption) _)).mono ?_; rintro e w' ⟨rfl, _⟩) | (go_at_call 55; refine (works15_any (by first | assumption | exact Gr.drewN (by assumption) _ | exact AW.gr (by assumption))).mono ?_; rintro e w' ⟨rfl, _⟩))
      go_ret
      rename_i g3
      exact ⟨rfl, g3.1⟩
set_option maxRecDepth 100000 in
set_option maxHeartbeats 4000000 in
theorem amplValid_none_some (w : World) (a : Option Addr) (cap : Nat) (b' off' len' cap' : Nat) (zs' : List Int) (hb' : b' < w.heap.size) (hc' : ∀ j, j < len' → w.cell? ⟨b', off' + j, none⟩ = some (.int .i64 (zs'.getD j 0))) (hl' : len' ≤ 9223372036854775807) (hz' : ∀ n ∈ zs', okI n) :
    Calls Try.prog 13 #[.slice a 0 cap, .slice (some ⟨b', off', none⟩) len' cap'] w fun e w' => e = .returned (.bool true) ∧ Below w.heap.size w w' := by
  have HC' := Lib.hid hc'; clear hc'
  have HZ' := Lib.hid hz'; clear hz'
  have g := Gr.refl w
  go_enter Try.func13, Try.ntmps13
  go_wp2_with fail
  refine (new_aw _ g).mono ?_
  rintro e w2 ⟨rfl, g2⟩
  go_wp2_with fail
  go_loopw [6] (fun i wr => i = .int .i64 0 ∧ wr = w2) (fun _ _ => 0)
  case atStart => exact ⟨rfl, rfl⟩
  case round =>
    obtain ⟨rfl, rfl⟩ := hrel
    obtain ⟨G, S, hG, hS, g2⟩ : ∃ G S : Int, G = 0 ∧ S = 0 ∧ AW w.heap.size G S false w.heap.size w wr := ⟨0, 0, rfl, rfl, g2⟩
    have G0 : 0 ≤ G := by omega
    have G2 : G ≤ 1966050 := by omega
    have S0 : 0 ≤ S := by omega
    have S1 : S ≤ 3 * G := by omega
    clear hG hS
    go_wp2_with (first | (go_at_call 60; refine (totals_aw (by first | assumption | exact AW.drewN (by assumption) _)).mono ?_; rintro e w' ⟨rfl, _⟩) | (go_at_call 64; refine (valid_aw (by first | assumption | exact AW.drewN (by assumption) _)).mono ?_; rintro e w' ⟨rfl, _⟩) | (go_at_call 65; refine (validate_aw (by first | assumption | exact AW.drewN (by assumption) _)).mono ?_; rintro e w' ⟨rfl, _⟩))
    go_loopw [8, 9] (fun s i wr => ∃ (k : Nat) (T : Int), k ≤ len' ∧ k ≤ 30 ∧ s = .int .i64 T ∧ i = .int .i64 k ∧ 0 ≤ T ∧ T ≤ 3 * G + k * 65535 ∧ AW w.heap.size G T true w.heap.size w wr) (fun _ i _ => (30 - intOf i).toNat)
    case atStart => exact ⟨0, S, by omega, by omega, rfl, rfl, by omega, by omega, by assumption⟩
    case round =>
      obtain ⟨k, S, k1, k2, rfl, rfl, S0, S1, haw⟩ := hrel
      by_cases hlt : k < len' ∧ k < 30
      · obtain ⟨hk, hk30⟩ := hlt
        have hcell := (haw.gr.1.cell (p := ⟨b', off' + k, none⟩) hb').trans (HC'.out k hk)
        have hv := okI_getD HZ'.out k
        generalize zs'.getD k 0 = v at hcell hv
        have q0 : (0 : Int) ≤ (k : Int) := by omega
        have q1 : (k : Int) < (len' : Int) := by omega
        have q2 : (k : Int) < 30 := by omega
        have HV := Lib.hid (fun w => size15_any v w hv)
        obtain ⟨sv, hsv⟩ : ∃ k, v % 65536 = k := ⟨_, rfl⟩
        have v0 : 0 ≤ sv := by omega
        have v1 : sv ≤ 65535 := by omega
        have e1 := canB_yes (g := G) (s := S) (v := true) v0 v1 (by rw [left_t]; omega)
        have e2 := sentE_yes (g := G) (s := S) (v := true) v0 v1 (by rw [left_t]; omega)
        have e3 := sentS_yes (g := G) (s := S) (v := true) v0 v1 (by rw [left_t]; omega) S0 (by omega)
        go_wp2_with (first | (go_at_call 62; refine (HV.out _).mono ?_; rintro e w' ⟨rfl, rfl⟩) | (go_at_call 63; refine (can_aw _ (by first | assumption | exact AW.drewN (by assumption) _)).mono ?_; rintro e w' ⟨rfl, _⟩) | (go_at_call 59; refine (sent_aw _ (by first | assumption | exact AW.drewN (by assumption) _)).mono ?_; rintro e w' ⟨rfl, _⟩))
        go_roundw
        case rel => exact ⟨k + 1, S + sv, by omega, by omega, rfl, by go_num, by omega, by omega, by rw [← e3]; assumption⟩
        case measure => simp [intOf]; omega
      · by_cases hk : k < len'
        · have q1 : (k : Int) < (len' : Int) := by omega
          have q2 : ¬ (k : Int) < 30 := by omega
          clear hlt
          have f1 := canB_yes (g := G) (s := S) (v := true) (n := 65535) (by omega) (by omega) (by rw [left_t]; omega)
          have f2 : canB G S true 65536 = false := by unfold canB; rfl
          go_wp2_with (first | (go_at_call 60; refine (totals_aw (by first | assumption | exact AW.drewN (by assumption) _)).mono ?_; rintro e w' ⟨rfl, _⟩) | (go_at_call 63; refine (can_aw _ (by first | assumption | exact AW.drewN (by assumption) _)).mono ?_; rintro e w' ⟨rfl, _⟩) | (go_at_call 55; refine (works15_any (by first | assumption | exact Gr.drewN (by assumption) _ | exact AW.gr (by assumption))).mono ?_; rintro e w' ⟨rfl, _⟩))
          go_ret
          rename_i g3
          exact ⟨rfl, g3.1⟩
        · have q1 : ¬ (k : Int) < (len' : Int) := by omega
          clear hlt
          have f1 := canB_yes (g := G) (s := S) (v := true) (n := 65535) (by omega) (by omega) (by rw [left_t]; omega)
          have f2 : canB G S true 65536 = false := by unfold canB; rfl
          go_wp2_with (first | (go_at_call 60; refine (totals_aw (by first | assumption | exact AW.drewN (by assumption) _)).mono ?_; rintro e w' ⟨rfl, _⟩) | (go_at_call 63; refine (can_aw _ (by first | assumption | exact AW.drewN (by assumption) _)).mono ?_; rintro e w' ⟨rfl, _⟩) | (go_at_call 55; refine (works15_any (by first | assumption | exact Gr.drewN (by assumption) _ | exact AW.gr (by assumption))).mono ?_; rintro e w' ⟨rfl, _⟩))
          go_ret
          rename_i g3
          exact ⟨rfl, g3.1⟩
set_option maxRecDepth 100000 in
set_option maxHeartbeats 4000000 in
theorem amplValid_some_none (w : World) (b off len cap : Nat) (zs : List Int) (hb : b < w.heap.size) (hc : ∀ j, j < len → w.cell? ⟨b, off + j, none⟩ = some (.int .i64 (zs.getD j 0))) (hl : len ≤ 9223372036854775807) (hz : ∀ n ∈ zs, okI n) (a' : Option Addr) (cap' : Nat) :
    Calls Try.prog 13 #[.slice (some ⟨b, off, none⟩) len cap, .slice a' 0 cap'] w fun e w' => e = .returned (.bool true) ∧ Below w.heap.size w w' := by
  have HC := Lib.hid hc; clear hc
  have HZ := Lib.hid hz; clear hz
  have g := Gr.refl w
  go_enter Try.func13, Try.ntmps13
  go_wp2_with fail
  refine (new_aw _ g).mono ?_
  rintro e w2 ⟨rfl, g2⟩
  go_wp2_with fail
  go_loopw [6] (fun i wr => ∃ (k : Nat) (G S : Int), k ≤ len ∧ k ≤ 30 ∧ i = .int .i64 k ∧ 0 ≤ G ∧ G ≤ k * 65535 ∧ 0 ≤ S ∧ S ≤ 3 * G ∧ AW w.heap.size G S false w.heap.size w wr) (fun i _ => (30 - intOf i).toNat)
  case atStart => exact ⟨0, 0, 0, by omega, by omega, rfl, by omega, by omega, by omega, by omega, g2⟩
  case round =>
    obtain ⟨k, G, S, k1, k2, rfl, G0, G1, S0, S1, haw⟩ := hrel
    by_cases hlt : k < len ∧ k < 30
    · obtain ⟨hk, hk30⟩ := hlt
      have HCK := Lib.hid (HC.out k hk)
      have hv := okI_getD HZ.out k
      generalize zs.getD k 0 = v at HCK hv
      have hcell := (haw.gr.1.cell (p := ⟨b, off + k, none⟩) hb).trans HCK.out
      have q0 : (0 : Int) ≤ (k : Int) := by omega
      have q1 : (k : Int) < (len : Int) := by omega
      have q2 : (k : Int) < 30 := by omega
      have HV := Lib.hid (fun w => size15_any v w hv)
      obtain ⟨d0, d1⟩ := tdiv2_ok hv
      obtain ⟨d, hd⟩ : ∃ d, v.tdiv 2 = d := ⟨_, rfl⟩
      rw [hd] at d0 d1
      have HD := Lib.hid (fun w => size15_any d w ⟨by omega, by omega⟩)
      obtain ⟨sv, hsv⟩ : ∃ k, v % 65536 = k := ⟨_, rfl⟩
      obtain ⟨sd, hsd⟩ : ∃ k, d % 65536 = k := ⟨_, rfl⟩
      have v0 : 0 ≤ sv := by omega
      have v1 : sv ≤ 65535 := by omega
      have u0 : 0 ≤ sd := by omega
      have u1 : sd ≤ 65535 := by omega
      have e1 := gotE_yes v0 v1
      have e2 := gotG_yes v0 v1 G0 (by omega)
      have e3 := sentS_some (G := G + sv) (S := S) u0 u1 (by omega) (by omega) S0 (by omega)
      have H3 := Lib.hid e3; clear e3
      go_wp2_with (first | (go_at_call 62; refine (HV.out _).mono ?_; rintro e w' ⟨rfl, rfl⟩) | (go_at_call 58; refine (got_aw _ haw).mono ?_; rintro e wx ⟨rfl, hx⟩; rw [e2] at hx; have hcell2 := (hx.gr.1.cell (p := ⟨b, off + k, none⟩) hb).trans HCK.out) | (go_at_call 62; refine (HD.out _).mono ?_; rintro e w' ⟨rfl, rfl⟩) | (go_at_call 59; refine (sent_aw _ (by first | assumption | exact AW.drewN (by assumption) _)).mono ?_; rintro e w' ⟨rfl, _⟩))
      go_roundw
      case rel => exact ⟨k + 1, G + sv, sentS (G + sv) S false sd, by omega, by omega, by go_num, by omega, by omega, H3.out.1, H3.out.2, by assumption⟩
      case measure => simp [intOf]; omega
    · have G2 : G ≤ 1966050 := by omega
      by_cases hk : k < len
      · have q1 : (k : Int) < (len : Int) := by omega
        have q2 : ¬ (k : Int) < 30 := by omega
        clear hlt
        go_wp2_with (first | (go_at_call 60; refine (totals_aw (by first | assumption | exact AW.drewN (by assumption) _)).mono ?_; rintro e w' ⟨rfl, _⟩) | (go_at_call 64; refine (valid_aw (by first | assumption | exact AW.drewN (by assumption) _)).mono ?_; rintro e w' ⟨rfl, _⟩) | (go_at_call 65; refine (validate_aw (by first | assumption | exact AW.drewN (by assumption) _)).mono ?_; rintro e w' ⟨rfl, _⟩))
        go_loopw [8, 9] (fun s i wr => s = .int .i64 S ∧ i = .int .i64 0 ∧ AW w.heap.size G S true w.heap.size w wr) (fun _ _ _ => 0)
        case atStart => exact ⟨rfl, rfl, by assumption⟩
        case round =>
          obtain ⟨rfl, rfl, haw⟩ := hrel
          have f1 := canB_yes (g := G) (s := S) (v := true) (n := 65535) (by omega) (by omega) (by rw [left_t]; omega)
          have f2 : canB G S true 65536 = false := by unfold canB; rfl
          go_wp2_with (first | (go_at_call 60; refine (totals_aw (by first | assumption | exact AW.drewN (by assumption) _)).mono ?_; rintro e w' ⟨rfl, _⟩) | (go_at_call 63; refine (can_aw _ (by first | assumption | exact AW.drewN (by assumption) _)).mono ?_; rintro e w' ⟨rfl, _⟩) | (go_at_call 55; refine (works15_any (by first | assumption | exact Gr.drewN (by assumption) _ | exact AW.gr (by assumption))).mono ?_; rintro e w' ⟨rfl, _⟩))
          go_ret
          rename_i g3
          exact ⟨rfl, g3.1⟩
      · have q1 : ¬ (k : Int) < (len : Int) := by omega
        clear hlt
        go_wp2_with (first | (go_at_call 60; refine (totals_aw (by first | assumption | exact AW.drewN (by assumption) _)).mono ?_; rintro e w' ⟨rfl, _⟩) | (go_at_call 64; refine (valid_aw (by first | assumption | exact AW.drewN (by assumption) _)).mono ?_; rintro e w' ⟨rfl, _⟩) | (go_at_call 65; refine (validate_aw (by first | assumption | exact AW.drewN (by assumption) _)).mono ?_; rintro e w' ⟨rfl, _⟩))
        go_loopw [8, 9] (fun s i wr => s = .int .i64 S ∧ i = .int .i64 0 ∧ AW w.heap.size G S true w.heap.size w wr) (fun _ _ _ => 0)
        case atStart => exact ⟨rfl, rfl, by assumption⟩
        case round =>
          obtain ⟨rfl, rfl, haw⟩ := hrel
          have f1 := canB_yes (g := G) (s := S) (v := true) (n := 65535) (by omega) (by omega) (by rw [left_t]; omega)
          have f2 : canB G S true 65536 = false := by unfold canB; rfl
          go_wp2_with (first | (go_at_call 60; refine (totals_aw (by first | assumption | exact AW.drewN (by assumption) _)).mono ?_; rintro e w' ⟨rfl, _⟩) | (go_at_call 63; refine (can_aw _ (by first | assumption | exact AW.drewN (by assumption) _)).mono ?_; rintro e w' ⟨rfl, _⟩) | (go_at_call 55; refine (works15_any (by first | assumption | exact Gr.drewN (by assumption) _ | exact AW.gr (by assumption))).mono ?_; rintro e w' ⟨rfl, _⟩))
          go_ret
          rename_i g3
          exact ⟨rfl, g3.1⟩
set_option maxRecDepth 100000 in
set_option maxHeartbeats 4000000 in
theorem amplValid_some_some (w : World) (b off len cap : Nat) (zs : List Int) (hb : b < w.heap.size) (hc : ∀ j, j < len → w.cell? ⟨b, off + j, none⟩ = some (.int .i64 (zs.getD j 0))) (hl : len ≤ 9223372036854775807) (hz : ∀ n ∈ zs, okI n) (b' off' len' cap' : Nat) (zs' : List Int) (hb' : b' < w.heap.size) (hc' : ∀ j, j < len' → w.cell? ⟨b', off' + j, none⟩ = some (.int .i64 (zs'.getD j 0))) (hl' : len' ≤ 9223372036854775807) (hz' : ∀ n ∈ zs', okI n) :
    Calls Try.prog 13 #[.slice (some ⟨b, off, none⟩) len cap, .slice (some ⟨b', off', none⟩) len' cap'] w fun e w' => e = .returned (.bool true) ∧ Below w.heap.size w w' := by
  have HC := Lib.hid hc; clear hc
  have HZ := Lib.hid hz; clear hz
  have HC' := Lib.hid hc'; clear hc'
  have HZ' := Lib.hid hz'; clear hz'
  have g := Gr.refl w
  go_enter Try.func13, Try.ntmps13
  go_wp2_with fail
  refine (new_aw _ g).mono ?_
  rintro e w2 ⟨rfl, g2⟩
  go_wp2_with fail
  go_loopw [6] (fun i wr => ∃ (k : Nat) (G S : Int), k ≤ len ∧ k ≤ 30 ∧ i = .int .i64 k ∧ 0 ≤ G ∧ G ≤ k * 65535 ∧ 0 ≤ S ∧ S ≤ 3 * G ∧ AW w.heap.size G S false w.heap.size w wr) (fun i _ => (30 - intOf i).toNat)
  case atStart => exact ⟨0, 0, 0, by omega, by omega, rfl, by omega, by omega, by omega, by omega, g2⟩
  case round =>
    obtain ⟨k, G, S, k1, k2, rfl, G0, G1, S0, S1, haw⟩ := hrel
    by_cases hlt : k < len ∧ k < 30
    · obtain ⟨hk, hk30⟩ := hlt
      have HCK := Lib.hid (HC.out k hk)
      have hv := okI_getD HZ.out k
      generalize zs.getD k 0 = v at HCK hv
      have hcell := (haw.gr.1.cell (p := ⟨b, off + k, none⟩) hb).trans HCK.out
      have q0 : (0 : Int) ≤ (k : Int) := by omega
      have q1 : (k : Int) < (len : Int) := by omega
      have q2 : (k : Int) < 30 := by omega
      have HV := Lib.hid (fun w => size15_any v w hv)
      obtain ⟨d0, d1⟩ := tdiv2_ok hv
      obtain ⟨d, hd⟩ : ∃ d, v.tdiv 2 = d := ⟨_, rfl⟩
      rw [hd] at d0 d1
      have HD := Lib.hid (fun w => size15_any d w ⟨by omega, by omega⟩)
      obtain ⟨sv, hsv⟩ : ∃ k, v % 65536 = k := ⟨_, rfl⟩
      obtain ⟨sd, hsd⟩ : ∃ k, d % 65536 = k := ⟨_, rfl⟩
      have v0 : 0 ≤ sv := by omega
      have v1 : sv ≤ 65535 := by omega
      have u0 : 0 ≤ sd := by omega
      have u1 : sd ≤ 65535 := by omega
      have e1 := gotE_yes v0 v1
      have e2 := gotG_yes v0 v1 G0 (by omega)
      have e3 := sentS_some (G := G + sv) (S := S) u0 u1 (by omega) (by omega) S0 (by omega)
      have H3 := Lib.hid e3; clear e3
      go_wp2_with (first | (go_at_call 62; refine (HV.out _).mono ?_; rintro e w' ⟨rfl, rfl⟩) | (go_at_call 58; refine (got_aw _ haw).mono ?_; rintro e wx ⟨rfl, hx⟩; rw [e2] at hx; have hcell2 := (hx.gr.1.cell (p := ⟨b, off + k, none⟩) hb).trans HCK.out) | (go_at_call 62; refine (HD.out _).mono ?_; rintro e w' ⟨rfl, rfl⟩) | (go_at_call 59; refine (sent_aw _ (by first | assumption | exact AW.drewN (by assumption) _)).mono ?_; rintro e w' ⟨rfl, _⟩))
      go_roundw
      case rel => exact ⟨k + 1, G + sv, sentS (G + sv) S false sd, by omega, by omega, by go_num, by omega, by omega, H3.out.1, H3.out.2, by assumption⟩
      case measure => simp [intOf]; omega
    · have G2 : G ≤ 1966050 := by omega
      by_cases hk : k < len
      · have q1 : (k : Int) < (len : Int) := by omega
        have q2 : ¬ (k : Int) < 30 := by omega
        clear hlt
        go_wp2_with (first | (go_at_call 60; refine (totals_aw (by first | assumption | exact AW.drewN (by assumption) _)).mono ?_; rintro e w' ⟨rfl, _⟩) | (go_at_call 64; refine (valid_aw (by first | assumption | exact AW.drewN (by assumption) _)).mono ?_; rintro e w' ⟨rfl, _⟩) | (go_at_call 65; refine (validate_aw (by first | assumption | exact AW.drewN (by assumption) _)).mono ?_; rintro e w' ⟨rfl, _⟩))
        go_loopw [8, 9] (fun s i wr => ∃ (k : Nat) (T : Int), k ≤ len' ∧ k ≤ 30 ∧ s = .int .i64 T ∧ i = .int .i64 k ∧ 0 ≤ T ∧ T ≤ 3 * G + k * 65535 ∧ AW w.heap.size G T true w.heap.size w wr) (fun _ i _ => (30 - intOf i).toNat)
        case atStart => exact ⟨0, S, by omega, by omega, rfl, rfl, by omega, by omega, by assumption⟩
        case round =>
          obtain ⟨k, S, k1, k2, rfl, rfl, S0, S1, haw⟩ := hrel
          by_cases hlt : k < len' ∧ k < 30
          · obtain ⟨hk, hk30⟩ := hlt
            have hcell := (haw.gr.1.cell (p := ⟨b', off' + k, none⟩) hb').trans (HC'.out k hk)
            have hv := okI_getD HZ'.out k
            generalize zs'.getD k 0 = v at hcell hv
            have q0 : (0 : Int) ≤ (k : Int) := by omega
            have q1 : (k : Int) < (len' : Int) := by omega
            have q2 : (k : Int) < 30 := by omega
            have HV := Lib.hid (fun w => size15_any v w hv)
            obtain ⟨sv, hsv⟩ : ∃ k, v % 65536 = k := ⟨_, rfl⟩
            have v0 : 0 ≤ sv := by omega
            have v1 : sv ≤ 65535 := by omega
            have e1 := canB_yes (g := G) (s := S) (v := true) v0 v1 (by rw [left_t]; omega)
            have e2 := sentE_yes (g := G) (s := S) (v := true) v0 v1 (by rw [left_t]; omega)
            have e3 := sentS_yes (g := G) (s := S) (v := true) v0 v1 (by rw [left_t]; omega) S0 (by omega)
            go_wp2_with (first | (go_at_call 62; refine (HV.out _).mono ?_; rintro e w' ⟨rfl, rfl⟩) | (go_at_call 63; refine (can_aw _ (by first | assumption | exact AW.drewN (by assumption) _)).mono ?_; rintro e w' ⟨rfl, _⟩) | (go_at_call 59; refine (sent_aw _ (by first | assumption | exact AW.drewN (by assumption) _)).mono ?_; rintro e w' ⟨rfl, _⟩))
            go_roundw
            case rel => exact ⟨k + 1, S + sv, by omega, by omega, rfl, by go_num, by omega, by omega, by rw [← e3]; assumption⟩
            case measure => simp [intOf]; omega
          · by_cases hk : k < len'
            · have q1 : (k : Int) < (len' : Int) := by omega
              have q2 : ¬ (k : Int) < 30 := by omega
              clear hlt
              have f1 := canB_yes (g := G) (s := S) (v := true) (n := 65535) (by omega) (by omega) (by rw [left_t]; omega)
              have f2 : canB G S true 65536 = false := by unfold canB; rfl
              go_wp2_with (first | (go_at_call 60; refine (totals_aw (by first | assumption | exact AW.drewN (by assumption) _)).mono ?_; rintro e w' ⟨rfl, _⟩) | (go_at_call 63; refine (can_aw _ (by first | assumption | exact AW.drewN (by assumption) _)).mono ?_; rintro e w' ⟨rfl, _⟩) | (go_at_call 55; refine (works15_any (by first | assumption | exact Gr.drewN (by assumption) _ | exact AW.gr (by assumption))).mono ?_; rintro e w' ⟨rfl, _⟩))
              go_ret
              rename_i g3
              exact ⟨rfl, g3.1⟩
            · have q1 : ¬ (k : Int) < (len' : Int) := by omega
              clear hlt
              have f1 := canB_yes (g := G) (s := S) (v := true) (n := 65535) (by omega) (by omega) (by rw [left_t]; omega)
              have f2 : canB G S true 65536 = false := by unfold canB; rfl
              go_wp2_with (first | (go_at_call 60; refine (totals_aw (by first | assumption | exact AW.drewN (by assumption) _)).mono ?_; rintro e w' ⟨rfl, _⟩) | (go_at_call 63; refine (can_aw _ (by first | assumption | exact AW.drewN (by assumption) _)).mono ?_; rintro e w' ⟨rfl, _⟩) | (go_at_call 55; refine (works15_any (by first | assumption | exact Gr.drewN (by assumption) _ | exact AW.gr (by assumption))).mono ?_; rintro e w' ⟨rfl, _⟩))
              go_ret
              rename_i g3
              exact ⟨rfl, g3.1⟩
      · have q1 : ¬ (k : Int) < (len : Int) := by omega
        clear hlt
        go_wp2_with (first | (go_at_call 60; refine (totals_aw (by first | assumption | exact AW.drewN (by assumption) _)).mono ?_; rintro e w' ⟨rfl, _⟩) | (go_at_call 64; refine (valid_aw (by first | assumption | exact AW.drewN (by assumption) _)).mono ?_; rintro e w' ⟨rfl, _⟩) | (go_at_call 65; refine (validate_aw (by first | assumption | exact AW.drewN (by assumption) _)).mono ?_; rintro e w' ⟨rfl, _⟩))
        go_loopw [8, 9] (fun s i wr => ∃ (k : Nat) (T : Int), k ≤ len' ∧ k ≤ 30 ∧ s = .int .i64 T ∧ i = .int .i64 k ∧ 0 ≤ T ∧ T ≤ 3 * G + k * 65535 ∧ AW w.heap.size G T true w.heap.size w wr) (fun _ i _ => (30 - intOf i).toNat)
        case atStart => exact ⟨0, S, by omega, by omega, rfl, rfl, by omega, by omega, by assumption⟩
        case round =>
          obtain ⟨k, S, k1, k2, rfl, rfl, S0, S1, haw⟩ := hrel
          by_cases hlt : k < len' ∧ k < 30
          · obtain ⟨hk, hk30⟩ := hlt
            have hcell := (haw.gr.1.cell (p := ⟨b', off' + k, none⟩) hb').trans (HC'.out k hk)
            have hv := okI_getD HZ'.out k
            generalize zs'.getD k 0 = v at hcell hv
            have q0 : (0 : Int) ≤ (k : Int) := by omega
            have q1 : (k : Int) < (len' : Int) := by omega
            have q2 : (k : Int) < 30 := by omega
            have HV := Lib.hid (fun w => size15_any v w hv)
            obtain ⟨sv, hsv⟩ : ∃ k, v % 65536 = k := ⟨_, rfl⟩
            have v0 : 0 ≤ sv := by omega
            have v1 : sv ≤ 65535 := by omega
            have e1 := canB_yes (g := G) (s := S) (v := true) v0 v1 (by rw [left_t]; omega)
            have e2 := sentE_yes (g := G) (s := S) (v := true) v0 v1 (by rw [left_t]; omega)
            have e3 := sentS_yes (g := G) (s := S) (v := true) v0 v1 (by rw [left_t]; omega) S0 (by omega)
            go_wp2_with (first | (go_at_call 62; refine (HV.out _).mono ?_; rintro e w' ⟨rfl, rfl⟩) | (go_at_call 63; refine (can_aw _ (by first | assumption | exact AW.drewN (by assumption) _)).mono ?_; rintro e w' ⟨rfl, _⟩) | (go_at_call 59; refine (sent_aw _ (by first | assumption | exact AW.drewN (by assumption) _)).mono ?_; rintro e w' ⟨rfl, _⟩))
            go_roundw
            case rel => exact ⟨k + 1, S + sv, by omega, by omega, rfl, by go_num, by omega, by omega, by rw [← e3]; assumption⟩
            case measure => simp [intOf]; omega
          · by_cases hk : k < len'
            · have q1 : (k : Int) < (len' : Int) := by omega
              have q2 : ¬ (k : Int) < 30 := by omega
              clear hlt
              have f1 := canB_yes (g := G) (s := S) (v := true) (n := 65535) (by omega) (by omega) (by rw [left_t]; omega)
              have f2 : canB G S true 65536 = false := by unfold canB; rfl
              go_wp2_with (first | (go_at_call 60; refine (totals_aw (by first | assumption | exact AW.drewN (by assumption) _)).mono ?_; rintro e w' ⟨rfl, _⟩) | (go_at_call 63; refine (can_aw _ (by first | assumption | exact AW.drewN (by assumption) _)).mono ?_; rintro e w' ⟨rfl, _⟩) | (go_at_call 55; refine (works15_any (by first | assumption | exact Gr.drewN (by assumption) _ | exact AW.gr (by assumption))).mono ?_; rintro e w' ⟨rfl, _⟩))
              go_ret
              rename_i g3
              exact ⟨rfl, g3.1⟩
            · have q1 : ¬ (k : Int) < (len' : Int) := by omega
              clear hlt
              have f1 := canB_yes (g := G) (s := S) (v := true) (n := 65535) (by omega) (by omega) (by rw [left_t]; omega)
              have f2 : canB G S true 65536 = false := by unfold canB; rfl
              go_wp2_with (first | (go_at_call 60; refine (totals_aw (by first | assumption | exact AW.drewN (by assumption) _)).mono ?_; rintro e w' ⟨rfl, _⟩) | (go_at_call 63; refine (can_aw _ (by first | assumption | exact AW.drewN (by assumption) _)).mono ?_; rintro e w' ⟨rfl, _⟩) | (go_at_call 55; refine (works15_any (by first | assumption | exact Gr.drewN (by assumption) _ | exact AW.gr (by assumption))).mono ?_; rintro e w' ⟨rfl, _⟩))
              go_ret
              rename_i g3
              exact ⟨rfl, g3.1⟩
theorem amplValid_walk (w : World) (a : Option Addr) (len cap : Nat) (zs : List Int) (hr : Row 1 w a len zs) (hl : len ≤ 9223372036854775807) (hz : ∀ n ∈ zs, okI n) (a' : Option Addr) (len' cap' : Nat) (zs' : List Int) (hr' : Row 1 w a' len' zs') (hl' : len' ≤ 9223372036854775807) (hz' : ∀ n ∈ zs', okI n) :
    Calls Try.prog 13 #[.slice a len cap, .slice a' len' cap'] w fun e w' => e = .returned (.bool true) ∧ Below w.heap.size w w' := by
  rcases hr with ⟨rfl, _⟩ | ⟨b, off, rfl, hb, _, hc⟩ <;> rcases hr' with ⟨rfl, _⟩ | ⟨b', off', rfl, hb', _, hc'⟩
  · exact amplValid_none_none w a cap a' cap'
  · exact amplValid_none_some w a cap b' off' len' cap' zs' hb' (fun j hj => hc' j (by omega)) hl' hz'
  · exact amplValid_some_none w b off len cap zs hb (fun j hj => hc j (by omega)) hl hz a' cap'
  · exact amplValid_some_some w b off len cap zs hb (fun j hj => hc j (by omega)) hl hz b' off' len' cap' zs' hb' (fun j hj => hc' j (by omega)) hl' hz'

end Go.Proofs.Ytcholjdbmmgakaa
