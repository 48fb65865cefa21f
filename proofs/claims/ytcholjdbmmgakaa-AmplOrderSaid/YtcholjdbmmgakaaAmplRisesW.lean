/- The walk of AmplRises. -/
import Derived.Test.YtcholjdbmmgakaaAmplMath
namespace Go.Proofs.Ytcholjdbmmgakaa
open Go.RowKit Sat

theorem size15_any (n : Int) (w : World) (h : okI n) : Calls Try.prog 62 #[.int .i64 n] w fun e w' => e = .returned (.int .i64 (n % 65536)) ∧ w = w' := by
  go_enter Try.func62, Try.ntmps62
  go_wp2_with (go_at_call 57; refine (bring_any _ _ _ h (by omega) (by omega)).mono ?_; rintro e w' ⟨rfl, rfl⟩)
  go_ret
  exact ⟨rfl, rfl⟩
theorem canB_yes {g s n : Int} {v : Bool} (h0 : 0 ≤ n) (h1 : n ≤ 65535) (h : n ≤ leftOf g s v) : canB g s v n = true := by
  unfold canB; rw [isSz_yes h0 h1, decide_eq_true h]; rfl

set_option maxRecDepth 100000 in
set_option maxHeartbeats 2000000 in
theorem amplRises_none (w : World) (a0 : Option Addr) (cap : Nat) (n : Int) (hn : okI n) (m : Int) (hm : okI m) :
    Calls Try.prog 12 #[.slice a0 0 cap, .int .i64 n, .int .i64 m] w fun e w' => e = .returned (.bool true) ∧ Below w.heap.size w w' := by
  have HN := Lib.hid (fun w => size15_any n w hn); have HM := Lib.hid (fun w => size15_any m w hm)
  obtain ⟨sn, hsn⟩ : ∃ k, n % 65536 = k := ⟨_, rfl⟩
  obtain ⟨sm, hsm⟩ : ∃ k, m % 65536 = k := ⟨_, rfl⟩
  have n0 : 0 ≤ sn := by omega
  have n1 : sn ≤ 65535 := by omega
  have s0 : 0 ≤ sm := by omega
  have s1 : sm ≤ 65535 := by omega
  have g := Gr.refl w
  go_enter Try.func12, Try.ntmps12
  go_wp2_with fail
  refine (new_aw _ g).mono ?_
  rintro e w2 ⟨rfl, g2⟩
  go_wp2_with fail
  go_loopw [8] (fun i wr => i = .int .i64 0 ∧ wr = w2) (fun _ _ => 0)
  case atStart => exact ⟨rfl, rfl⟩
  case round =>
    obtain ⟨rfl, rfl⟩ := hrel
    obtain ⟨G, hG, g2⟩ : ∃ G : Int, G = 0 ∧ AW w.heap.size G 0 false w.heap.size w wr := ⟨0, rfl, g2⟩
    have G0 : 0 ≤ G := by omega
    have G1 : G ≤ 1310700 := by omega
    clear hG
    have l1 := left_f (g := G) (s := 0) G0 (by omega) (by omega) (by omega)
    have l1' : leftOf G 0 false = 3 * G := by omega
    obtain ⟨t, ht⟩ : ∃ t, min sn (3 * G) = t := ⟨_, rfl⟩
    have t0 : 0 ≤ t := by omega
    have t1 : t ≤ 65535 := by omega
    have t2 : t ≤ 3 * G := by omega
    have e1 := canB_yes (g := G) (s := 0) (v := false) t0 t1 (by omega)
    have e2 := sentE_yes (g := G) (s := 0) (v := false) t0 t1 (by omega)
    have e3 := sentS_yes (g := G) (s := 0) (v := false) t0 t1 (by omega) (by omega) (by omega)
    have e3' : sentS G 0 false t = t := by omega
    have e4 := left_f (g := G) (s := t) G0 (by omega) t0 t2
    have e5 := gotE_yes s0 s1
    have e6 := gotG_yes s0 s1 G0 (by omega)
    have e7 := left_f (g := G + sm) (s := t) (by omega) (by omega) t0 (by omega)
    have e7' : leftOf (G + sm) t false = 3 * G - t + 3 * sm := by omega
    clear l1 e3 e7
    go_wp2_with (first | (go_at_call 62; refine (HN.out _).mono ?_; rintro e w' ⟨rfl, rfl⟩) | (go_at_call 62; refine (HM.out _).mono ?_; rintro e w' ⟨rfl, rfl⟩) | (go_at_call 58; refine (got_aw _ (by first | assumption | exact AW.drewN (by assumption) _)).mono ?_; rintro e w' ⟨rfl, _⟩) | (go_at_call 59; refine (sent_aw _ (by first | assumption | exact AW.drewN (by assumption) _)).mono ?_; rintro e w' ⟨rfl, _⟩) | (go_at_call 61; refine (left_aw (by first | assumption | exact AW.drewN (by assumption) _)).mono ?_; rintro e w' ⟨rfl, _⟩) | (go_at_call 63; refine (can_aw _ (by first | assumption | exact AW.drewN (by assumption) _)).mono ?_; rintro e w' ⟨rfl, _⟩) | (go_at_call 55; refine (works15_any (by first | assumption | exact Gr.drewN (by assumption) _ | exact AW.gr (by assumption))).mono ?_; rintro e w' ⟨rfl, _⟩))
    go_ret
    rename_i g3
    exact ⟨rfl, g3.1⟩

set_option maxRecDepth 100000 in
set_option maxHeartbeats 2000000 in
theorem amplRises_some (w : World) (b off len cap : Nat) (zs : List Int) (hb : b < w.heap.size) (hc : ∀ j, j < len → w.cell? ⟨b, off + j, none⟩ = some (.int .i64 (zs.getD j 0))) (hl : len ≤ 9223372036854775807) (hz : ∀ n ∈ zs, okI n) (n : Int) (hn : okI n) (m : Int) (hm : okI m) :
    Calls Try.prog 12 #[.slice (some ⟨b, off, none⟩) len cap, .int .i64 n, .int .i64 m] w fun e w' => e = .returned (.bool true) ∧ Below w.heap.size w w' := by
  have HC := Lib.hid hc; clear hc
  have HZ := Lib.hid hz; clear hz
  have HN := Lib.hid (fun w => size15_any n w hn); have HM := Lib.hid (fun w => size15_any m w hm)
  obtain ⟨sn, hsn⟩ : ∃ k, n % 65536 = k := ⟨_, rfl⟩
  obtain ⟨sm, hsm⟩ : ∃ k, m % 65536 = k := ⟨_, rfl⟩
  have n0 : 0 ≤ sn := by omega
  have n1 : sn ≤ 65535 := by omega
  have s0 : 0 ≤ sm := by omega
  have s1 : sm ≤ 65535 := by omega
  have g := Gr.refl w
  go_enter Try.func12, Try.ntmps12
  go_wp2_with fail
  refine (new_aw _ g).mono ?_
  rintro e w2 ⟨rfl, g2⟩
  go_wp2_with fail
  go_loopw [8] (fun i wr => ∃ (k : Nat) (G : Int), k ≤ len ∧ k ≤ 20 ∧ i = .int .i64 k ∧ 0 ≤ G ∧ G ≤ k * 65535 ∧ AW w.heap.size G 0 false w.heap.size w wr) (fun i _ => (20 - intOf i).toNat)
  case atStart => exact ⟨0, 0, by omega, by omega, rfl, by omega, by omega, g2⟩
  case round =>
    obtain ⟨k, G, k1, k2, rfl, G0, G1, haw⟩ := hrel
    by_cases hlt : k < len ∧ k < 20
    · obtain ⟨hk, hk20⟩ := hlt
      have hcell := (haw.gr.1.cell (p := ⟨b, off + k, none⟩) hb).trans (HC.out k hk)
      have hv := okI_getD HZ.out k
      generalize zs.getD k 0 = v at hcell hv
      have q0 : (0 : Int) ≤ (k : Int) := by omega
      have q1 : (k : Int) < (len : Int) := by omega
      have q2 : (k : Int) < 20 := by omega
      have HV := Lib.hid (fun w => size15_any v w hv)
      obtain ⟨sv, hsv⟩ : ∃ k, v % 65536 = k := ⟨_, rfl⟩
      have v0 : 0 ≤ sv := by omega
      have v1 : sv ≤ 65535 := by omega
      have e1 := gotE_yes v0 v1
      have e2 := gotG_yes v0 v1 G0 (by omega)
      go_wp2_with (first | (go_at_call 62; refine (HV.out _).mono ?_; rintro e w' ⟨rfl, rfl⟩) | (go_at_call 58; refine (got_aw _ (by first | assumption | exact AW.drewN (by assumption) _)).mono ?_; rintro e w' ⟨rfl, _⟩))
      go_roundw
      case rel => exact ⟨k + 1, G + sv, by omega, by omega, by go_num, by omega, by omega, by rw [← e2]; assumption⟩
      case measure => simp [intOf]; omega
    · have G2 : G ≤ 1310700 := by omega
      have l1 := left_f (g := G) (s := 0) G0 (by omega) (by omega) (by omega)
      have l1' : leftOf G 0 false = 3 * G := by omega
      obtain ⟨t, ht⟩ : ∃ t, min sn (3 * G) = t := ⟨_, rfl⟩
      have t0 : 0 ≤ t := by omega
      have t1 : t ≤ 65535 := by omega
      have t2 : t ≤ 3 * G := by omega
      have e1 := canB_yes (g := G) (s := 0) (v := false) t0 t1 (by omega)
      have e2 := sentE_yes (g := G) (s := 0) (v := false) t0 t1 (by omega)
      have e3 := sentS_yes (g := G) (s := 0) (v := false) t0 t1 (by omega) (by omega) (by omega)
      have e3' : sentS G 0 false t = t := by omega
      have e4 := left_f (g := G) (s := t) G0 (by omega) t0 t2
      have e5 := gotE_yes s0 s1
      have e6 := gotG_yes s0 s1 G0 (by omega)
      have e7 := left_f (g := G + sm) (s := t) (by omega) (by omega) t0 (by omega)
      have e7' : leftOf (G + sm) t false = 3 * G - t + 3 * sm := by omega
      clear l1 e3 e7
      by_cases hk : k < len
      · have q1 : (k : Int) < (len : Int) := by omega
        have q2 : ¬ (k : Int) < 20 := by omega
        clear hlt
        go_wp2_with (first | (go_at_call 62; refine (HN.out _).mono ?_; rintro e w' ⟨rfl, rfl⟩) | (go_at_call 62; refine (HM.out _).mono ?_; rintro e w' ⟨rfl, rfl⟩) | (go_at_call 58; refine (got_aw _ (by first | assumption | exact AW.drewN (by assumption) _)).mono ?_; rintro e w' ⟨rfl, _⟩) | (go_at_call 59; refine (sent_aw _ (by first | assumption | exact AW.drewN (by assumption) _)).mono ?_; rintro e w' ⟨rfl, _⟩) | (go_at_call 61; refine (left_aw (by first | assumption | exact AW.drewN (by assumption) _)).mono ?_; rintro e w' ⟨rfl, _⟩) | (go_at_call 63; refine (can_aw _ (by first | assumption | exact AW.drewN (by assumption) _)).mono ?_; rintro e w' ⟨rfl, _⟩) | (go_at_call 55; refine (works15_any (by first | assumption | exact Gr.drewN (by assumption) _ | exact AW.gr (by assumption))).mono ?_; rintro e w' ⟨rfl, _⟩))
        go_ret
        rename_i g3
        exact ⟨rfl, g3.1⟩
      · have q1 : ¬ (k : Int) < (len : Int) := by omega
        clear hlt
        go_wp2_with (first | (go_at_call 62; refine (HN.out _).mono ?_; rintro e w' ⟨rfl, rfl⟩) | (go_at_call 62; refine (HM.out _).mono ?_; rintro e w' ⟨rfl, rfl⟩) | (go_at_call 58; refine (got_aw _ (by first | assumption | exact AW.drewN (by assumption) _)).mono ?_; rintro e w' ⟨rfl, _⟩) | (go_at_call 59; refine (sent_aw _ (by first | assumption | exact AW.drewN (by assumption) _)).mono ?_; rintro e w' ⟨rfl, _⟩) | (go_at_call 61; refine (left_aw (by first | assumption | exact AW.drewN (by assumption) _)).mono ?_; rintro e w' ⟨rfl, _⟩) | (go_at_call 63; refine (can_aw _ (by first | assumption | exact AW.drewN (by assumption) _)).mono ?_; rintro e w' ⟨rfl, _⟩) | (go_at_call 55; refine (works15_any (by first | assumption | exact Gr.drewN (by assumption) _ | exact AW.gr (by assumption))).mono ?_; rintro e w' ⟨rfl, _⟩))
        go_ret
        rename_i g3
        exact ⟨rfl, g3.1⟩

theorem amplRises_walk (w : World) (a : Option Addr) (len cap : Nat) (zs : List Int) (hr : Row 1 w a len zs) (hl : len ≤ 9223372036854775807) (hz : ∀ n ∈ zs, okI n) (n : Int) (hn : okI n) (m : Int) (hm : okI m) :
    Calls Try.prog 12 #[.slice a len cap, .int .i64 n, .int .i64 m] w fun e w' => e = .returned (.bool true) ∧ Below w.heap.size w w' := by
  rcases hr with ⟨rfl, _⟩ | ⟨b, off, rfl, hb, _, hc⟩
  · exact amplRises_none w a cap n hn m hm
  · exact amplRises_some w b off len cap zs hb (fun j hj => hc j (by omega)) hl hz n hn m hm

end Go.Proofs.Ytcholjdbmmgakaa
