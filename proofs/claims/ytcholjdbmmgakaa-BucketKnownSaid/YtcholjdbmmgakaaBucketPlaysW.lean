/- The walk of BucketPlays. -/
import Derived.Test.YtcholjdbmmgakaaBuckSame
namespace Go.Proofs.Ytcholjdbmmgakaa
open Go.RowKit Sat

/-- Block K is a call's description. -/
def Do13 (K : Nat) (dk dt dn dx dy : Int) (w : World) : Prop := w.heap[K]? = some (.cells #[.int .i64 dk, .int .i64 dt, .int .i64 dn, .int .i64 dx, .int .i64 dy] 77 (0, 0))
theorem Do13.hold {K : Nat} {dk dt dn dx dy : Int} {w : World} (h : Do13 K dk dt dn dx dy w) : w.cell? ⟨K, 1, none⟩ = some (.int .i64 dt) ∧ w.cell? ⟨K, 2, none⟩ = some (.int .i64 dn) ∧ w.cell? ⟨K, 3, none⟩ = some (.int .i64 dx) ∧ w.cell? ⟨K, 4, none⟩ = some (.int .i64 dy) :=
  ⟨cellOf h rfl, cellOf h rfl, cellOf h rfl, cellOf h rfl⟩

set_option maxRecDepth 100000 in
set_option maxHeartbeats 4000000 in
theorem bucketPlays_bad (w : World) (bu t : Int) (hbad : BS.newE bu t ≠ 0) (a0 : Option Addr) (len cap : Nat) (hl : len ≤ 9223372036854775807) :
    Calls Try.prog 18 #[.int .i64 bu, .int .i64 t, .slice a0 len cap] w fun e w' => e = .returned (.bool true) ∧ Below w.heap.size w w' := by
  go_enter Try.func18, Try.ntmps18
  go_wp2_with fail
  refine (bkNew_no bu t _ hbad).mono ?_
  rintro e w1 ⟨rfl, rfl⟩
  go_wp2_with fail
  refine (rbNew_no bu t _ hbad).mono ?_
  rintro e w2 ⟨rfl, rfl⟩
  go_wp2_with fail
  go_loopw [7, 11] (fun p i wr => p = .pointer none ∧ i = .int .i64 0 ∧ wr = w) (fun _ _ _ => 0)
  case atStart => exact ⟨rfl, rfl, rfl⟩
  case round =>
    obtain ⟨rfl, rfl, rfl⟩ := hrel
    by_cases hz : len = 0
    · subst hz
      go_wp2_with (go_at_call 79; refine (works13_any (Gr.refl _)).mono ?_; rintro e wz ⟨rfl, hz⟩)
      go_ret
      exact ⟨rfl, hz.1⟩
    · have hz' : (0 : Int) < (len : Int) := by omega
      go_wp2_with (go_at_call 79; refine (works13_any (Gr.refl _)).mono ?_; rintro e wz ⟨rfl, hz⟩)
      go_ret
      exact ⟨rfl, hz.1⟩

set_option maxRecDepth 100000 in
set_option maxHeartbeats 4000000 in
theorem bucketPlays_none (w : World) (bu t : Int) (hnew : BS.newE bu t = 0) (a0 : Option Addr) (cap : Nat) :
    Calls Try.prog 18 #[.int .i64 bu, .int .i64 t, .slice a0 0 cap] w fun e w' => e = .returned (.bool true) ∧ Below w.heap.size w w' := by
  have g := Gr.refl w
  go_enter Try.func18, Try.ntmps18
  go_wp2_with fail
  refine (bkNew_yes bu t _ hnew).mono ?_
  rintro e w1 ⟨rfl, l1, b1⟩
  go_wp2_with fail
  refine (rbNew_yes bu t _ hnew).mono ?_
  rintro e w2 ⟨rfl, l2, b2⟩
  have h2 : PB w.heap.size w1.heap.size (BS.new bu t) (BS.new bu t) w.heap.size w w2 := ⟨l1.below b2, l2, BS.new_ok hnew, BS.new_ok hnew, (g.step b1).step b2, Nat.le_refl _, b1.size, Nat.ne_of_lt (lt_of_block l1)⟩
  clear l1 b1 l2 b2
  go_wp2_with fail
  go_loopw [7, 11] (fun p i wr => p = .pointer (some ⟨w.heap.size, 0, none⟩) ∧ i = .int .i64 0 ∧ wr = w2) (fun _ _ _ => 0)
  case atStart => exact ⟨rfl, rfl, rfl⟩
  case round =>
    obtain ⟨rfl, rfl, rfl⟩ := hrel
    have hpw := h2
    go_wp2_with (go_at_call 79; refine (works13_any hpw.gr).mono ?_; rintro e wz ⟨rfl, hz⟩)
    go_ret
    exact ⟨rfl, hz.1⟩

set_option maxRecDepth 100000 in
set_option maxHeartbeats 8000000 in
theorem bucketPlays_some (w : World) (bu t : Int) (hnew : BS.newE bu t = 0) (b off len cap : Nat) (zs : List Int) (hb : b < w.heap.size) (hc : ∀ j, j < len * 5 → w.cell? ⟨b, off + j, none⟩ = some (.int .i64 (zs.getD j 0))) (hl : len ≤ 9223372036854775807) (hz : ∀ n ∈ zs, okI n) :
    Calls Try.prog 18 #[.int .i64 bu, .int .i64 t, .slice (some ⟨b, off, none⟩) len cap] w fun e w' => e = .returned (.bool true) ∧ Below w.heap.size w w' := by
  have HC := Lib.hid hc; clear hc
  have HZ := Lib.hid hz; clear hz
  have g := Gr.refl w
  go_enter Try.func18, Try.ntmps18
  go_wp2_with fail
  refine (bkNew_yes bu t _ hnew).mono ?_
  rintro e w1 ⟨rfl, l1, b1⟩
  go_wp2_with fail
  refine (rbNew_yes bu t _ hnew).mono ?_
  rintro e w2 ⟨rfl, l2, b2⟩
  have h2 : PB w.heap.size w1.heap.size (BS.new bu t) (BS.new bu t) w.heap.size w w2 := ⟨l1.below b2, l2, BS.new_ok hnew, BS.new_ok hnew, (g.step b1).step b2, Nat.le_refl _, b1.size, Nat.ne_of_lt (lt_of_block l1)⟩
  clear l1 b1 l2 b2
  go_wp2_with fail
  go_loopw [7, 11] (fun p i wr => ∃ (k A : Nat) (s : BS), k ≤ len ∧ k ≤ 60 ∧ p = .pointer (some ⟨A, 0, none⟩) ∧ i = .int .i64 k ∧ PB A w1.heap.size s s w.heap.size w wr) (fun _ i _ => (60 - intOf i).toNat)
  case atStart => exact ⟨0, _, _, by omega, by omega, rfl, rfl, h2⟩
  case round =>
    obtain ⟨k, A, s, k1, k2, rfl, rfl, hpw⟩ := hrel
    clear h2
    by_cases hlt : k < len ∧ k < 60
    · obtain ⟨hk, hk60⟩ := hlt
      have HC0 := HC.out (k * 5) (by omega); have HC1 := HC.out (k * 5 + 1) (by omega); have HC2 := HC.out (k * 5 + 2) (by omega); have HC3 := HC.out (k * 5 + 3) (by omega); have HC4 := HC.out (k * 5 + 4) (by omega)
      have o0 := okI_getD HZ.out (k * 5)
      generalize zs.getD (k * 5) 0 = dk at HC0 o0
      generalize zs.getD (k * 5 + 1) 0 = dt at HC1
      generalize zs.getD (k * 5 + 2) 0 = dn at HC2
      generalize zs.getD (k * 5 + 3) 0 = dx at HC3
      generalize zs.getD (k * 5 + 4) 0 = dy at HC4
      have c0 := (hpw.gr.1.cell (p := ⟨b, off + (k * 5), none⟩) hb).trans HC0
      have c1 : wr.cell? ⟨b, off + k * 5 + 1, none⟩ = some (.int .i64 dt) := (hpw.gr.1.cell (p := ⟨b, off + (k * 5 + 1), none⟩) hb).trans HC1
      have c2 : wr.cell? ⟨b, off + k * 5 + 2, none⟩ = some (.int .i64 dn) := (hpw.gr.1.cell (p := ⟨b, off + (k * 5 + 2), none⟩) hb).trans HC2
      have c3 : wr.cell? ⟨b, off + k * 5 + 3, none⟩ = some (.int .i64 dx) := (hpw.gr.1.cell (p := ⟨b, off + (k * 5 + 3), none⟩) hb).trans HC3
      have c4 : wr.cell? ⟨b, off + k * 5 + 4, none⟩ = some (.int .i64 dy) := (hpw.gr.1.cell (p := ⟨b, off + (k * 5 + 4), none⟩) hb).trans HC4
      clear HC0 HC1 HC2 HC3 HC4
      have q0 : (0 : Int) ≤ (k : Int) := by omega
      have q1 : (k : Int) < (len : Int) := by omega
      have q2 : (k : Int) < 60 := by omega
      have HK := Lib.hid (fun w => bring_any dk 8 w o0 (by omega) (by omega))
      have t0 : 0 ≤ dk % 8 := Int.emod_nonneg _ (by omega)
      have t1 : dk % 8 < 8 := Int.emod_lt_of_pos _ (by omega)
      obtain ⟨t, ht⟩ : ∃ t, dk % 8 = t := ⟨_, rfl⟩
      rw [ht] at HK t0 t1
      clear ht o0
      -- the block of d
      have HD := Lib.hid (show PB A w1.heap.size s s w.heap.size w (wr.alloc (.cells #[.int .i64 dk, .int .i64 dt, .int .i64 dn, .int .i64 dx, .int .i64 dy] 77 (0, 0))) from hpw.step ((Below.refl _ _).alloc (Nat.le_refl _) _))
      have HO := Lib.hid (show Do13 wr.heap.size dk dt dn dx dy (wr.alloc (.cells #[.int .i64 dk, .int .i64 dt, .int .i64 dn, .int .i64 dx, .int .i64 dy] 77 (0, 0))) from new_at _ _)
      have hDA : wr.heap.size ≠ A := Ne.symm (Nat.ne_of_lt hpw.alt)
      have hDM : wr.heap.size ≠ w1.heap.size := Ne.symm (Nat.ne_of_lt hpw.mlt)
      have ht8 : t = 0 ∨ t = 1 ∨ t = 2 ∨ t = 3 ∨ t = 4 ∨ t = 5 ∨ t = 6 ∨ t = 7 := by omega
      rcases ht8 with rfl | rfl | rfl | rfl | rfl | rfl | rfl | rfl
      · skip
        go_wp2_with (go_at_call 57; refine (HK.out _).mono ?_; rintro e w' ⟨rfl, rfl⟩)
        go_region_held3 (fun w' => w'.cell? ⟨wr.heap.size, 1, none⟩ = some (.int .i64 dt) ∧ w'.cell? ⟨wr.heap.size, 2, none⟩ = some (.int .i64 dn) ∧ w'.cell? ⟨wr.heap.size, 3, none⟩ = some (.int .i64 dx) ∧ w'.cell? ⟨wr.heap.size, 4, none⟩ = some (.int .i64 dy)) (first | exact ⟨by assumption, by assumption, by assumption, by assumption⟩ | go_simp) (first | (go_at_call 76; refine (fill_pb HD.out.drew).mono ?_; rintro e wA ⟨rfl, hpA, hcA⟩; have hDA2 : Do13 wr.heap.size dk dt dn dx dy wA := hcA.at hDA HO.out; obtain ⟨u1, u2, u3, u4⟩ := hDA2.hold) | (go_at_call 81; refine (rfill_pb hpA).mono ?_; rintro e wB ⟨rfl, hpw2, hcB⟩; have hDB2 : Do13 wr.heap.size dk dt dn dx dy wB := (hcB.at hDM hDA2); obtain ⟨v1, v2, v3, v4⟩ := hDB2.hold))
        go_wp2_with (go_at_call 87; refine (same13_any _ _ _ _ hpw2.bk hpw2.ref hpw2.ok).mono ?_; rintro e wE ⟨rfl, hbE⟩; have hpw3 := hpw2.step hbE)
        go_roundw
        case rel => exact ⟨k + 1, _, _, by omega, by omega, rfl, by go_num, hpw3⟩
        case measure => simp [intOf]; omega
      · skip
        go_wp2_with (go_at_call 57; refine (HK.out _).mono ?_; rintro e w' ⟨rfl, rfl⟩)
        go_region_held3 (fun w' => w'.cell? ⟨wr.heap.size, 1, none⟩ = some (.int .i64 dt) ∧ w'.cell? ⟨wr.heap.size, 2, none⟩ = some (.int .i64 dn) ∧ w'.cell? ⟨wr.heap.size, 3, none⟩ = some (.int .i64 dx) ∧ w'.cell? ⟨wr.heap.size, 4, none⟩ = some (.int .i64 dy)) (first | exact ⟨by assumption, by assumption, by assumption, by assumption⟩ | go_simp) (first | (go_at_call 76; refine (fill_pb HD.out.drew).mono ?_; rintro e wA ⟨rfl, hpA, hcA⟩; have hDA2 : Do13 wr.heap.size dk dt dn dx dy wA := hcA.at hDA HO.out; obtain ⟨u1, u2, u3, u4⟩ := hDA2.hold) | (go_at_call 81; refine (rfill_pb hpA).mono ?_; rintro e wB ⟨rfl, hpw2, hcB⟩; have hDB2 : Do13 wr.heap.size dk dt dn dx dy wB := (hcB.at hDM hDA2); obtain ⟨v1, v2, v3, v4⟩ := hDB2.hold))
        go_wp2_with (go_at_call 87; refine (same13_any _ _ _ _ hpw2.bk hpw2.ref hpw2.ok).mono ?_; rintro e wE ⟨rfl, hbE⟩; have hpw3 := hpw2.step hbE)
        go_roundw
        case rel => exact ⟨k + 1, _, _, by omega, by omega, rfl, by go_num, hpw3⟩
        case measure => simp [intOf]; omega
      · skip
        go_wp2_with (go_at_call 57; refine (HK.out _).mono ?_; rintro e w' ⟨rfl, rfl⟩)
        go_region_held3 (fun w' => w'.cell? ⟨wr.heap.size, 1, none⟩ = some (.int .i64 dt) ∧ w'.cell? ⟨wr.heap.size, 2, none⟩ = some (.int .i64 dn) ∧ w'.cell? ⟨wr.heap.size, 3, none⟩ = some (.int .i64 dx) ∧ w'.cell? ⟨wr.heap.size, 4, none⟩ = some (.int .i64 dy)) (first | exact ⟨by assumption, by assumption, by assumption, by assumption⟩ | go_simp) (first | (go_at_call 76; refine (fill_pb HD.out.drew).mono ?_; rintro e wA ⟨rfl, hpA, hcA⟩; have hDA2 : Do13 wr.heap.size dk dt dn dx dy wA := hcA.at hDA HO.out; obtain ⟨u1, u2, u3, u4⟩ := hDA2.hold) | (go_at_call 81; refine (rfill_pb hpA).mono ?_; rintro e wB ⟨rfl, hpw2, hcB⟩; have hDB2 : Do13 wr.heap.size dk dt dn dx dy wB := (hcB.at hDM hDA2); obtain ⟨v1, v2, v3, v4⟩ := hDB2.hold))
        go_wp2_with (go_at_call 87; refine (same13_any _ _ _ _ hpw2.bk hpw2.ref hpw2.ok).mono ?_; rintro e wE ⟨rfl, hbE⟩; have hpw3 := hpw2.step hbE)
        go_roundw
        case rel => exact ⟨k + 1, _, _, by omega, by omega, rfl, by go_num, hpw3⟩
        case measure => simp [intOf]; omega
      · skip
        go_wp2_with (go_at_call 57; refine (HK.out _).mono ?_; rintro e w' ⟨rfl, rfl⟩)
        go_region_held3 (fun w' => w'.cell? ⟨wr.heap.size, 1, none⟩ = some (.int .i64 dt) ∧ w'.cell? ⟨wr.heap.size, 2, none⟩ = some (.int .i64 dn) ∧ w'.cell? ⟨wr.heap.size, 3, none⟩ = some (.int .i64 dx) ∧ w'.cell? ⟨wr.heap.size, 4, none⟩ = some (.int .i64 dy)) (first | exact ⟨by assumption, by assumption, by assumption, by assumption⟩ | go_simp) (first | (go_at_call 75; refine (take_pb HD.out.drew).mono ?_; rintro e wA ⟨rfl, hpA, hcA⟩; have hDA2 : Do13 wr.heap.size dk dt dn dx dy wA := hcA.at hDA HO.out; obtain ⟨u1, u2, u3, u4⟩ := hDA2.hold) | (go_at_call 82; refine (rtake_pb hpA).mono ?_; rintro e wB ⟨rfl, hpw2, hcB⟩; have hDB2 : Do13 wr.heap.size dk dt dn dx dy wB := (hcB.at hDM hDA2); obtain ⟨v1, v2, v3, v4⟩ := hDB2.hold))
        go_wp2_with (go_at_call 87; refine (same13_any _ _ _ _ hpw2.bk hpw2.ref hpw2.ok).mono ?_; rintro e wE ⟨rfl, hbE⟩; have hpw3 := hpw2.step hbE)
        go_roundw
        case rel => exact ⟨k + 1, _, _, by omega, by omega, rfl, by go_num, hpw3⟩
        case measure => simp [intOf]; omega
      · skip
        go_wp2_with (go_at_call 57; refine (HK.out _).mono ?_; rintro e w' ⟨rfl, rfl⟩)
        go_region_held3 (fun w' => w'.cell? ⟨wr.heap.size, 1, none⟩ = some (.int .i64 dt) ∧ w'.cell? ⟨wr.heap.size, 2, none⟩ = some (.int .i64 dn) ∧ w'.cell? ⟨wr.heap.size, 3, none⟩ = some (.int .i64 dx) ∧ w'.cell? ⟨wr.heap.size, 4, none⟩ = some (.int .i64 dy)) (first | exact ⟨by assumption, by assumption, by assumption, by assumption⟩ | go_simp) (first | (go_at_call 75; refine (take_pb HD.out.drew).mono ?_; rintro e wA ⟨rfl, hpA, hcA⟩; have hDA2 : Do13 wr.heap.size dk dt dn dx dy wA := hcA.at hDA HO.out; obtain ⟨u1, u2, u3, u4⟩ := hDA2.hold) | (go_at_call 82; refine (rtake_pb hpA).mono ?_; rintro e wB ⟨rfl, hpw2, hcB⟩; have hDB2 : Do13 wr.heap.size dk dt dn dx dy wB := (hcB.at hDM hDA2); obtain ⟨v1, v2, v3, v4⟩ := hDB2.hold))
        go_wp2_with (go_at_call 87; refine (same13_any _ _ _ _ hpw2.bk hpw2.ref hpw2.ok).mono ?_; rintro e wE ⟨rfl, hbE⟩; have hpw3 := hpw2.step hbE)
        go_roundw
        case rel => exact ⟨k + 1, _, _, by omega, by omega, rfl, by go_num, hpw3⟩
        case measure => simp [intOf]; omega
      · skip
        go_wp2_with (go_at_call 57; refine (HK.out _).mono ?_; rintro e w' ⟨rfl, rfl⟩)
        go_region_held3 (fun w' => w'.cell? ⟨wr.heap.size, 1, none⟩ = some (.int .i64 dt) ∧ w'.cell? ⟨wr.heap.size, 2, none⟩ = some (.int .i64 dn) ∧ w'.cell? ⟨wr.heap.size, 3, none⟩ = some (.int .i64 dx) ∧ w'.cell? ⟨wr.heap.size, 4, none⟩ = some (.int .i64 dy)) (first | exact ⟨by assumption, by assumption, by assumption, by assumption⟩ | go_simp) (first | (go_at_call 83; refine (when_pb HD.out.drew).mono ?_; rintro e wA ⟨rfl, hpA, hcA⟩; have hDA2 : Do13 wr.heap.size dk dt dn dx dy wA := hcA.at hDA HO.out; obtain ⟨u1, u2, u3, u4⟩ := hDA2.hold) | (go_at_call 84; refine (rwhen_pb hpA).mono ?_; rintro e wB ⟨rfl, hpw2, hcB⟩; have hDB2 : Do13 wr.heap.size dk dt dn dx dy wB := (at_old hcB (lt_of_block hDA2) hDA2); obtain ⟨v1, v2, v3, v4⟩ := hDB2.hold))
        go_wp2_with (go_at_call 87; refine (same13_any _ _ _ _ hpw2.bk hpw2.ref hpw2.ok).mono ?_; rintro e wE ⟨rfl, hbE⟩; have hpw3 := hpw2.step hbE)
        go_roundw
        case rel => exact ⟨k + 1, _, _, by omega, by omega, rfl, by go_num, hpw3⟩
        case measure => simp [intOf]; omega
      · skip
        go_wp2_with (go_at_call 57; refine (HK.out _).mono ?_; rintro e w' ⟨rfl, rfl⟩)
        go_region_held3 (fun w' => w'.cell? ⟨wr.heap.size, 1, none⟩ = some (.int .i64 dt) ∧ w'.cell? ⟨wr.heap.size, 2, none⟩ = some (.int .i64 dn) ∧ w'.cell? ⟨wr.heap.size, 3, none⟩ = some (.int .i64 dx) ∧ w'.cell? ⟨wr.heap.size, 4, none⟩ = some (.int .i64 dy)) (first | exact ⟨by assumption, by assumption, by assumption, by assumption⟩ | go_simp) (first | (go_at_call 83; refine (when_pb HD.out.drew).mono ?_; rintro e wA ⟨rfl, hpA, hcA⟩; have hDA2 : Do13 wr.heap.size dk dt dn dx dy wA := hcA.at hDA HO.out; obtain ⟨u1, u2, u3, u4⟩ := hDA2.hold) | (go_at_call 84; refine (rwhen_pb hpA).mono ?_; rintro e wB ⟨rfl, hpw2, hcB⟩; have hDB2 : Do13 wr.heap.size dk dt dn dx dy wB := (at_old hcB (lt_of_block hDA2) hDA2); obtain ⟨v1, v2, v3, v4⟩ := hDB2.hold))
        go_wp2_with (go_at_call 87; refine (same13_any _ _ _ _ hpw2.bk hpw2.ref hpw2.ok).mono ?_; rintro e wE ⟨rfl, hbE⟩; have hpw3 := hpw2.step hbE)
        go_roundw
        case rel => exact ⟨k + 1, _, _, by omega, by omega, rfl, by go_num, hpw3⟩
        case measure => simp [intOf]; omega
      · skip
        go_wp2_with (go_at_call 57; refine (HK.out _).mono ?_; rintro e w' ⟨rfl, rfl⟩)
        refine (rbCopy_any w1.heap.size s _ HD.out.ref).mono ?_
        rintro e x1 ⟨rfl, lM2, bM2⟩
        have hd1 := HD.out.step bM2
        simp only [World.size_alloc] at lM2
        have HM2 := Lib.hid lM2
        clear lM2 bM2
        go_wp2_with fail
        refine (bkCopy_any A s _ hd1.bk hd1.ok).mono ?_
        rintro e x2 ⟨rfl, lA2, bA2⟩
        have hd2 := hd1.step bA2
        have live : PB x1.heap.size w1.heap.size s s w.heap.size w x2 := ⟨lA2, hd2.ref, hd2.ok, hd2.ok, hd2.gr, hd1.gr.2, hd2.hm, Ne.symm (Nat.ne_of_lt hd1.mlt)⟩
        have tmp : PB A (wr.heap.size + 1) s s w.heap.size w x2 := ⟨hd2.bk, HM2.out.below bA2, hd2.ok, hd2.ok, hd2.gr, hd2.ha, (by have := hpw.gr.2; omega), (by have := hpw.alt; omega)⟩
        have n1 : x1.heap.size ≠ A := Ne.symm (Nat.ne_of_lt hd1.alt)
        have n2 : x1.heap.size ≠ wr.heap.size + 1 := (by have := lt_of_block HM2.out; omega)
        have n3 : w1.heap.size ≠ A := Ne.symm hpw.ne
        have n4 : w1.heap.size ≠ wr.heap.size + 1 := (by have := hpw.mlt; omega)
        have n5 : A ≠ x1.heap.size := Ne.symm n1
        clear lA2 bA2 hd1 hd2 HM2
        go_wp2_with (first | (go_at_call_has 87 (Value.pointer (some ⟨w1.heap.size, 0, none⟩)); refine (same13_any _ _ _ _ live.bk live.ref live.ok).mono ?_; rintro e x3 ⟨rfl, b3⟩; have live3 := live.step b3; have tmp3 := tmp.step b3; clear live tmp b3) | (go_at_call 75; refine (take_pb tmp3).mono ?_; rintro e y1 ⟨rfl, hp1, hc1⟩; have live4 := live3.chx hc1 tmp3.ha n1 n3; clear live3 tmp3 hc1) | (go_at_call 82; refine (rtake_pb hp1).mono ?_; rintro e y2 ⟨rfl, hp2, hc2⟩; have live5 := live4.chx hc2 hp1.hm n2 n4; clear live4 hp1 hc2) | (go_at_call_has 87 (Value.pointer (some ⟨A, 0, none⟩)); refine (same13_any _ _ _ _ hp2.bk hp2.ref hp2.ok).mono ?_; rintro e y3 ⟨rfl, hb3⟩; have hpw2 := live5.step hb3; clear live5 hp2 hb3) | (go_at_call 87; refine (same13_any _ _ _ _ hpw2.bk hpw2.ref hpw2.ok).mono ?_; rintro e wE ⟨rfl, hbE⟩; have hpw3 := hpw2.step hbE))
        go_roundw
        case rel => exact ⟨k + 1, _, _, by omega, by omega, rfl, by go_num, hpw3⟩
        case measure => simp [intOf]; omega
    · by_cases hk : k < len
      · have q1 : (k : Int) < (len : Int) := by omega
        have q2 : ¬ (k : Int) < 60 := by omega
        clear hlt
        go_wp2_with (go_at_call 79; refine (works13_any hpw.gr).mono ?_; rintro e wz ⟨rfl, hz⟩)
        go_ret
        exact ⟨rfl, hz.1⟩
      · have q1 : ¬ (k : Int) < (len : Int) := by omega
        clear hlt
        go_wp2_with (go_at_call 79; refine (works13_any hpw.gr).mono ?_; rintro e wz ⟨rfl, hz⟩)
        go_ret
        exact ⟨rfl, hz.1⟩

theorem bucketPlays_row (w : World) (bu t : Int) (b off len cap : Nat) (zs : List Int) (hb : b < w.heap.size) (hc : ∀ j, j < len * 5 → w.cell? ⟨b, off + j, none⟩ = some (.int .i64 (zs.getD j 0))) (hl : len ≤ 9223372036854775807) (hz : ∀ n ∈ zs, okI n) :
    Calls Try.prog 18 #[.int .i64 bu, .int .i64 t, .slice (some ⟨b, off, none⟩) len cap] w fun e w' => e = .returned (.bool true) ∧ Below w.heap.size w w' := by
  by_cases hn : BS.newE bu t = 0
  · exact bucketPlays_some w bu t hn b off len cap zs hb hc hl hz
  · exact bucketPlays_bad w bu t hn _ len cap hl
theorem bucketPlays_walk (w : World) (bu : Int) (_ : okI bu) (t : Int) (_ : okI t) (a : Option Addr) (len cap : Nat) (zs : List Int) (hr : Row 5 w a len zs) (hl : len ≤ 9223372036854775807) (hz : ∀ n ∈ zs, okI n) :
    Calls Try.prog 18 #[.int .i64 bu, .int .i64 t, .slice a len cap] w fun e w' => e = .returned (.bool true) ∧ Below w.heap.size w w' := by
  rcases hr with ⟨rfl, _⟩ | ⟨b, off, rfl, hb, _, hc⟩
  · by_cases hn : BS.newE bu t = 0
    · exact bucketPlays_none w bu t hn a cap
    · exact bucketPlays_bad w bu t hn a 0 cap (by omega)
  · exact bucketPlays_row w bu t b off len cap zs hb hc hl hz

end Go.Proofs.Ytcholjdbmmgakaa
