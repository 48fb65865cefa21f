/- The walk of AmplPlays. -/
import Derived.Test.YtcholjdbmmgakaaAmplSame
namespace Go.Proofs.Ytcholjdbmmgakaa
open Go.RowKit Sat

set_option maxRecDepth 100000 in
set_option maxHeartbeats 4000000 in
theorem amplPlays_none (w : World) (v : Bool) (a0 : Option Addr) (cap : Nat) :
    Calls Try.prog 14 #[.bool v, .slice a0 0 cap] w fun e w' => e = .returned (.bool true) ∧ Below w.heap.size w w' := by
  have g := Gr.refl w
  go_enter Try.func14, Try.ntmps14
  go_wp2_with fail
  refine (amplNew_any v _).mono ?_
  rintro e w1 ⟨rfl, l1, b1⟩
  go_wp2_with fail
  refine (r15New_any v _).mono ?_
  rintro e w2 ⟨rfl, l2, b2⟩
  have h2 : PW w.heap.size w1.heap.size 0 0 v 0 0 v w.heap.size w w2 := ⟨l1.below b2, l2, (g.step b1).step b2, Nat.le_refl _, b1.size, Nat.ne_of_lt (lt_of_block l1)⟩
  clear l1 b1 l2 b2
  go_wp2_with fail
  go_loopw [5, 7] (fun p i wr => p = .pointer (some ⟨w.heap.size, 0, none⟩) ∧ i = .int .i64 0 ∧ wr = w2) (fun _ _ _ => 0)
  case atStart => exact ⟨rfl, rfl, rfl⟩
  case round =>
    obtain ⟨rfl, rfl, rfl⟩ := hrel
    have hpw := h2
    go_wp2_with (go_at_call 55; refine (works15_any hpw.gr).mono ?_; rintro e wz ⟨rfl, hz⟩)
    go_ret
    exact ⟨rfl, hz.1⟩

set_option maxRecDepth 100000 in
set_option maxHeartbeats 8000000 in
theorem amplPlays_some (w : World) (v : Bool) (b off len cap : Nat) (zs : List Int) (hb : b < w.heap.size) (hc : ∀ j, j < len * 2 → w.cell? ⟨b, off + j, none⟩ = some (.int .i64 (zs.getD j 0))) (hl : len ≤ 9223372036854775807) (hz : ∀ n ∈ zs, okI n) :
    Calls Try.prog 14 #[.bool v, .slice (some ⟨b, off, none⟩) len cap] w fun e w' => e = .returned (.bool true) ∧ Below w.heap.size w w' := by
  have HC := Lib.hid hc; clear hc
  have HZ := Lib.hid hz; clear hz
  have g := Gr.refl w
  go_enter Try.func14, Try.ntmps14
  go_wp2_with fail
  refine (amplNew_any v _).mono ?_
  rintro e w1 ⟨rfl, l1, b1⟩
  go_wp2_with fail
  refine (r15New_any v _).mono ?_
  rintro e w2 ⟨rfl, l2, b2⟩
  have h2 : PW w.heap.size w1.heap.size 0 0 v 0 0 v w.heap.size w w2 := ⟨l1.below b2, l2, (g.step b1).step b2, Nat.le_refl _, b1.size, Nat.ne_of_lt (lt_of_block l1)⟩
  clear l1 b1 l2 b2
  go_wp2_with fail
  go_loopw [5, 7] (fun p i wr => ∃ (k A : Nat) (G S : Int) (V : Bool), k ≤ len ∧ k ≤ 100 ∧ p = .pointer (some ⟨A, 0, none⟩) ∧ i = .int .i64 k ∧ PW A w1.heap.size G S V G S V w.heap.size w wr) (fun _ i _ => (100 - intOf i).toNat)
  case atStart => exact ⟨0, _, _, _, _, by omega, by omega, rfl, rfl, h2⟩
  case round =>
    obtain ⟨k, A, G, S, V, k1, k2, rfl, rfl, hpw⟩ := hrel
    by_cases hlt : k < len ∧ k < 100
    · obtain ⟨hk, hk100⟩ := hlt
      have HC0 := HC.out (k * 2) (by omega); have HC1 := HC.out (k * 2 + 1) (by omega)
      have o0 := okI_getD HZ.out (k * 2); have o1 := okI_getD HZ.out (k * 2 + 1)
      generalize zs.getD (k * 2) 0 = dk at HC0 o0
      generalize zs.getD (k * 2 + 1) 0 = dn at HC1 o1
      have c0 := (hpw.gr.1.cell (p := ⟨b, off + (k * 2), none⟩) hb).trans HC0
      have c1 : wr.cell? ⟨b, off + k * 2 + 1, none⟩ = some (.int .i64 dn) := (hpw.gr.1.cell (p := ⟨b, off + (k * 2 + 1), none⟩) hb).trans HC1
      clear HC0 HC1
      have q0 : (0 : Int) ≤ (k : Int) := by omega
      have q1 : (k : Int) < (len : Int) := by omega
      have q2 : (k : Int) < 100 := by omega
      have HK := Lib.hid (fun w => bring_any dk 8 w o0 (by omega) (by omega))
      have HN := Lib.hid (fun w => bring_any dn 6 w o1 (by omega) (by omega))
      have t0 : 0 ≤ dk % 8 := Int.emod_nonneg _ (by omega)
      have t1 : dk % 8 < 8 := Int.emod_lt_of_pos _ (by omega)
      obtain ⟨t, ht⟩ : ∃ t, dk % 8 = t := ⟨_, rfl⟩
      rw [ht] at HK t0 t1
      clear ht
      -- the block of d
      have hd : PW A w1.heap.size G S V G S V w.heap.size w (wr.alloc (.cells #[.int .i64 dk, .int .i64 dn] 51 (0, 0))) := hpw.step ((Below.refl _ _).alloc (Nat.le_refl _) _)
      have hD : (wr.alloc (.cells #[.int .i64 dk, .int .i64 dn] 51 (0, 0))).heap[wr.heap.size]? = some (.cells #[.int .i64 dk, .int .i64 dn] 51 (0, 0)) := new_at _ _
      have hDA : wr.heap.size ≠ A := Ne.symm (Nat.ne_of_lt hpw.alt)
      have hDM : wr.heap.size ≠ w1.heap.size := Ne.symm (Nat.ne_of_lt hpw.mlt)
      have hAM := hpw.ne
      have ht8 : t = 0 ∨ t = 1 ∨ t = 2 ∨ t = 3 ∨ t = 4 ∨ t = 5 ∨ t = 6 ∨ t = 7 := by omega
      rcases ht8 with rfl | rfl | rfl | rfl | rfl | rfl | rfl | rfl
      · skip
        go_wp2_with (go_at_call 57; refine (HK.out _).mono ?_; rintro e w' ⟨rfl, rfl⟩)
        go_region_held3 (fun w' => w'.cell? ⟨wr.heap.size, 1, none⟩ = some (.int .i64 dn)) (first | assumption | go_simp) (first | (go_at_call 58; refine (got_pw _ hd.drew).mono ?_; rintro e wA ⟨rfl, hpA, hcA⟩; have cA1 : wA.cell? ⟨wr.heap.size, 1, none⟩ = some (.int .i64 dn) := cellOf (o := 1) (hcA.at hDA hD) rfl; have hDA2 := hcA.at hDA hD) | (go_at_call 67; refine (rgot_pw _ hpA).mono ?_; rintro e wB ⟨rfl, hpw2, hcB⟩; have cB1 := cellOf (o := 1) (hcB.at hDM hDA2) rfl))
        go_wp2_with (go_at_call 71; refine (same15_any _ _ _ _ _ _ _ hpw2.lim hpw2.ref).mono ?_; rintro e wE ⟨rfl, hbE⟩; have hpw3 := hpw2.step hbE)
        go_roundw
        case rel => exact ⟨k + 1, _, _, _, _, by omega, by omega, rfl, by go_num, hpw3⟩
        case measure => simp [intOf]; omega
      · skip
        go_wp2_with (go_at_call 57; refine (HK.out _).mono ?_; rintro e w' ⟨rfl, rfl⟩)
        go_region_held3 (fun w' => w'.cell? ⟨wr.heap.size, 1, none⟩ = some (.int .i64 dn)) (first | assumption | go_simp) (first | (go_at_call 58; refine (got_pw _ hd.drew).mono ?_; rintro e wA ⟨rfl, hpA, hcA⟩; have cA1 : wA.cell? ⟨wr.heap.size, 1, none⟩ = some (.int .i64 dn) := cellOf (o := 1) (hcA.at hDA hD) rfl; have hDA2 := hcA.at hDA hD) | (go_at_call 67; refine (rgot_pw _ hpA).mono ?_; rintro e wB ⟨rfl, hpw2, hcB⟩; have cB1 := cellOf (o := 1) (hcB.at hDM hDA2) rfl))
        go_wp2_with (go_at_call 71; refine (same15_any _ _ _ _ _ _ _ hpw2.lim hpw2.ref).mono ?_; rintro e wE ⟨rfl, hbE⟩; have hpw3 := hpw2.step hbE)
        go_roundw
        case rel => exact ⟨k + 1, _, _, _, _, by omega, by omega, rfl, by go_num, hpw3⟩
        case measure => simp [intOf]; omega
      · skip
        go_wp2_with (go_at_call 57; refine (HK.out _).mono ?_; rintro e w' ⟨rfl, rfl⟩)
        go_region_held3 (fun w' => w'.cell? ⟨wr.heap.size, 1, none⟩ = some (.int .i64 dn)) (first | assumption | go_simp) (first | (go_at_call 58; refine (got_pw _ hd.drew).mono ?_; rintro e wA ⟨rfl, hpA, hcA⟩; have cA1 : wA.cell? ⟨wr.heap.size, 1, none⟩ = some (.int .i64 dn) := cellOf (o := 1) (hcA.at hDA hD) rfl; have hDA2 := hcA.at hDA hD) | (go_at_call 67; refine (rgot_pw _ hpA).mono ?_; rintro e wB ⟨rfl, hpw2, hcB⟩; have cB1 := cellOf (o := 1) (hcB.at hDM hDA2) rfl))
        go_wp2_with (go_at_call 71; refine (same15_any _ _ _ _ _ _ _ hpw2.lim hpw2.ref).mono ?_; rintro e wE ⟨rfl, hbE⟩; have hpw3 := hpw2.step hbE)
        go_roundw
        case rel => exact ⟨k + 1, _, _, _, _, by omega, by omega, rfl, by go_num, hpw3⟩
        case measure => simp [intOf]; omega
      · skip
        go_wp2_with (go_at_call 57; refine (HK.out _).mono ?_; rintro e w' ⟨rfl, rfl⟩)
        go_region_held3 (fun w' => w'.cell? ⟨wr.heap.size, 1, none⟩ = some (.int .i64 dn)) (first | assumption | go_simp) (first | (go_at_call 59; refine (sent_pw _ hd.drew).mono ?_; rintro e wA ⟨rfl, hpA, hcA⟩; have cA1 : wA.cell? ⟨wr.heap.size, 1, none⟩ = some (.int .i64 dn) := cellOf (o := 1) (hcA.at hDA hD) rfl; have hDA2 := hcA.at hDA hD) | (go_at_call 68; refine (rsent_pw _ hpA).mono ?_; rintro e wB ⟨rfl, hpw2, hcB⟩; have cB1 := cellOf (o := 1) (hcB.at hDM hDA2) rfl))
        go_wp2_with (go_at_call 71; refine (same15_any _ _ _ _ _ _ _ hpw2.lim hpw2.ref).mono ?_; rintro e wE ⟨rfl, hbE⟩; have hpw3 := hpw2.step hbE)
        go_roundw
        case rel => exact ⟨k + 1, _, _, _, _, by omega, by omega, rfl, by go_num, hpw3⟩
        case measure => simp [intOf]; omega
      · skip
        go_wp2_with (go_at_call 57; refine (HK.out _).mono ?_; rintro e w' ⟨rfl, rfl⟩)
        go_region_held3 (fun w' => w'.cell? ⟨wr.heap.size, 1, none⟩ = some (.int .i64 dn)) (first | assumption | go_simp) (first | (go_at_call 59; refine (sent_pw _ hd.drew).mono ?_; rintro e wA ⟨rfl, hpA, hcA⟩; have cA1 : wA.cell? ⟨wr.heap.size, 1, none⟩ = some (.int .i64 dn) := cellOf (o := 1) (hcA.at hDA hD) rfl; have hDA2 := hcA.at hDA hD) | (go_at_call 68; refine (rsent_pw _ hpA).mono ?_; rintro e wB ⟨rfl, hpw2, hcB⟩; have cB1 := cellOf (o := 1) (hcB.at hDM hDA2) rfl))
        go_wp2_with (go_at_call 71; refine (same15_any _ _ _ _ _ _ _ hpw2.lim hpw2.ref).mono ?_; rintro e wE ⟨rfl, hbE⟩; have hpw3 := hpw2.step hbE)
        go_roundw
        case rel => exact ⟨k + 1, _, _, _, _, by omega, by omega, rfl, by go_num, hpw3⟩
        case measure => simp [intOf]; omega
      · skip
        go_wp2_with (go_at_call 57; refine (HK.out _).mono ?_; rintro e w' ⟨rfl, rfl⟩)
        go_region_held3 (fun w' => w'.cell? ⟨wr.heap.size, 1, none⟩ = some (.int .i64 dn)) (first | assumption | go_simp) (first | (go_at_call 59; refine (sent_pw _ hd.drew).mono ?_; rintro e wA ⟨rfl, hpA, hcA⟩; have cA1 : wA.cell? ⟨wr.heap.size, 1, none⟩ = some (.int .i64 dn) := cellOf (o := 1) (hcA.at hDA hD) rfl; have hDA2 := hcA.at hDA hD) | (go_at_call 68; refine (rsent_pw _ hpA).mono ?_; rintro e wB ⟨rfl, hpw2, hcB⟩; have cB1 := cellOf (o := 1) (hcB.at hDM hDA2) rfl))
        go_wp2_with (go_at_call 71; refine (same15_any _ _ _ _ _ _ _ hpw2.lim hpw2.ref).mono ?_; rintro e wE ⟨rfl, hbE⟩; have hpw3 := hpw2.step hbE)
        go_roundw
        case rel => exact ⟨k + 1, _, _, _, _, by omega, by omega, rfl, by go_num, hpw3⟩
        case measure => simp [intOf]; omega
      · skip
        go_wp2_with (go_at_call 57; refine (HK.out _).mono ?_; rintro e w' ⟨rfl, rfl⟩)
        refine (r15Copy_any w1.heap.size G S V _ hd.ref).mono ?_
        rintro e x1 ⟨rfl, lM2, bM2⟩
        have hd1 := hd.step bM2
        have hD1 := at_old bM2 (by simp) hD
        simp only [World.size_alloc] at lM2
        have HM2 := Lib.hid lM2
        clear lM2 bM2
        go_wp2_with fail
        refine (amplCopy_any A G S V _ hd1.lim).mono ?_
        rintro e x2 ⟨rfl, lA2, bA2⟩
        have hd2 := hd1.step bA2
        have hD2 := at_old bA2 (lt_of_block hD1) hD1
        have live : PW x1.heap.size w1.heap.size G S V G S V w.heap.size w x2 := ⟨lA2, hd2.ref, hd2.gr, hd1.gr.2, hd2.hm, Ne.symm (Nat.ne_of_lt hd1.mlt)⟩
        have tmp : PW A (wr.heap.size + 1) G S V G S V w.heap.size w x2 := ⟨hd2.lim, HM2.out.below bA2, hd2.gr, hd2.ha, (by have := hpw.gr.2; omega), (by have := hpw.alt; omega)⟩
        have cD := cellOf (o := 1) hD2 rfl
        have n1 : x1.heap.size ≠ A := Ne.symm (Nat.ne_of_lt hd1.alt)
        have n2 : x1.heap.size ≠ wr.heap.size + 1 := (by have := lt_of_block HM2.out; omega)
        have n3 : w1.heap.size ≠ A := Ne.symm hpw.ne
        have n4 : w1.heap.size ≠ wr.heap.size + 1 := (by have := hpw.mlt; omega)
        have n5 : wr.heap.size ≠ wr.heap.size + 1 := (by omega)
        clear lA2 bA2 hd hd1 hd2 hD hD1 HM2
        go_wp2_with fail
        go_region_held3 (fun w' => w'.cell? ⟨wr.heap.size, 1, none⟩ = some (.int .i64 dn)) (first | assumption | go_simp) (first | (go_at_call 58; refine (got_pw _ tmp.drew).mono ?_; rintro e y1 ⟨rfl, hp1, hc1⟩; have live1 := live.drew.chx hc1 tmp.ha n1 n3; have hD3 := hc1.at hDA hD2; have cD3 := cellOf (o := 1) hD3 rfl) | (go_at_call 67; refine (rgot_pw _ hp1).mono ?_; rintro e y2 ⟨rfl, hp2, hc2⟩; have live2 := live1.chx hc2 hp1.hm n2 n4; have hD4 := hc2.at n5 hD3; have cD4 := cellOf (o := 1) hD4 rfl) | (go_at_call 71; refine (same15_any _ _ _ _ _ _ _ hp2.lim hp2.ref).mono ?_; rintro e y3 ⟨rfl, hb3⟩; have hpw2 := live2.step hb3; have hD5 := at_old hb3 (lt_of_block hD4) hD4; have cD5 := cellOf (o := 1) hD5 rfl))
        go_wp2_with (go_at_call 71; refine (same15_any _ _ _ _ _ _ _ hpw2.lim hpw2.ref).mono ?_; rintro e wE ⟨rfl, hbE⟩; have hpw3 := hpw2.step hbE)
        go_roundw
        case rel => exact ⟨k + 1, _, _, _, _, by omega, by omega, rfl, by go_num, hpw3⟩
        case measure => simp [intOf]; omega
      · skip
        have z0 : 0 ≤ dn % 6 := Int.emod_nonneg _ (by omega)
        by_cases hz5 : dn % 6 = 5
        · rw [hz5] at HN
          clear hz5 z0
          go_wp2_with (first | (go_at_call_of 57 (Value.int .i64 dk); refine (HK.out _).mono ?_; rintro e w' ⟨rfl, rfl⟩) | (go_at_call_of 57 (Value.int .i64 dn); refine (HN.out _).mono ?_; rintro e w' ⟨rfl, rfl⟩) | (go_at_call 65; refine (validate_pw hd).mono ?_; rintro e wA ⟨rfl, hpA, hcA⟩; have hDA2 := hcA.at hDA hD) | (go_at_call 72; refine (rvalidate_pw hpA).mono ?_; rintro e wB ⟨rfl, hpw2, hcB⟩; have cB1 := cellOf (o := 1) (hcB.at hDM hDA2) rfl) | (go_at_call 71; refine (same15_any _ _ _ _ _ _ _ hpw2.lim hpw2.ref).mono ?_; rintro e wE ⟨rfl, hbE⟩; have hpw3 := hpw2.step hbE))
          go_roundw
          case rel => exact ⟨k + 1, _, _, _, _, by omega, by omega, rfl, by go_num, hpw3⟩
          case measure => simp [intOf]; omega
        · have hz' : (dn % 6 == 5) = false := by rw [beq_eq_false_iff_ne]; exact hz5
          clear hz5 z0
          go_wp2_with (first | (go_at_call_of 57 (Value.int .i64 dk); refine (HK.out _).mono ?_; rintro e w' ⟨rfl, rfl⟩) | (go_at_call_of 57 (Value.int .i64 dn); refine (HN.out _).mono ?_; rintro e w' ⟨rfl, rfl⟩) | (go_at_call 71; refine (same15_any _ _ _ _ _ _ _ hd.lim hd.ref).mono ?_; rintro e wE ⟨rfl, hbE⟩; have hpw3 := hd.step hbE))
          go_roundw
          case rel => exact ⟨k + 1, _, _, _, _, by omega, by omega, rfl, by go_num, hpw3⟩
          case measure => simp [intOf]; omega
    · by_cases hk : k < len
      · have q1 : (k : Int) < (len : Int) := by omega
        have q2 : ¬ (k : Int) < 100 := by omega
        clear hlt
        go_wp2_with (go_at_call 55; refine (works15_any hpw.gr).mono ?_; rintro e wz ⟨rfl, hz⟩)
        go_ret
        exact ⟨rfl, hz.1⟩
      · have q1 : ¬ (k : Int) < (len : Int) := by omega
        clear hlt
        go_wp2_with (go_at_call 55; refine (works15_any hpw.gr).mono ?_; rintro e wz ⟨rfl, hz⟩)
        go_ret
        exact ⟨rfl, hz.1⟩

theorem amplPlays_walk (w : World) (v : Bool) (a : Option Addr) (len cap : Nat) (zs : List Int) (hr : Row 2 w a len zs) (hl : len ≤ 9223372036854775807) (hz : ∀ n ∈ zs, okI n) :
    Calls Try.prog 14 #[.bool v, .slice a len cap] w fun e w' => e = .returned (.bool true) ∧ Below w.heap.size w w' := by
  rcases hr with ⟨rfl, _⟩ | ⟨b, off, rfl, hb, _, hc⟩
  · exact amplPlays_none w v a cap
  · exact amplPlays_some w v b off len cap zs hb hc hl hz

end Go.Proofs.Ytcholjdbmmgakaa
