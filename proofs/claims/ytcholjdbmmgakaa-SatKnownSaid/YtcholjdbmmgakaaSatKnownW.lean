/- The walk of SatKnown. -/
import Derived.Test.YtcholjdbmmgakaaSatAnswersW
import Derived.Test.YtcholjdbmmgakaaSatSumsW
import Derived.Test.YtcholjdbmmgakaaSatTellsW
import Derived.Test.YtcholjdbmmgakaaSatTimesW
import Derived.Test.YtcholjdbmmgakaaSatExactW
import Derived.Deep.RegionHeld3
namespace Go.Proofs.Ytcholjdbmmgakaa
open Go.RowKit Sat

def ENDS : List Int := [-9223372036854775808, -2, -1, 0, 1, 2, 3, 67108864, 134217727, 134217728, 1099511627776, 4503599627370495, 4503599627370496, 9007199254740990, 9007199254740991, 9007199254740992, 1152921504606846976, 9223372036854775807]
def endAt (i : Nat) : Int := ENDS.getD i 0
theorem end_ok (i : Nat) : okI (endAt i) := okI_getD (fun n hn => by
  have h : ENDS.all (fun n => decide (-9223372036854775808 ≤ n ∧ n ≤ 9223372036854775807)) = true := by decide
  have g := List.all_eq_true.1 h n hn
  simp only [decide_eq_true_eq] at g
  exact g) i

/-- Block K holds the numbers. -/
def Blk (K : Nat) (w : World) : Prop := w.heap[K]? = some (.cells (ENDS.map (Value.int .i64)).toArray 3 (0, 0))
theorem Blk.lt {K : Nat} {w : World} (h : Blk K w) : K < w.heap.size := lt_of_block h
theorem Blk.cell {K : Nat} {w : World} (h : Blk K w) (i : Nat) (hi : i < 18) : w.cell? ⟨K, i, none⟩ = some (.int .i64 (endAt i)) := by
  refine cellOf h ?_
  have hl : i < ENDS.length := hi
  unfold endAt
  rw [List.getElem?_toArray, List.getElem?_map, List.getElem?_eq_getElem hl, List.getD_eq_getElem?_getD, List.getElem?_eq_getElem hl]
  rfl
theorem Blk.below {K : Nat} {w w' : World} (h : Blk K w) (g : Below w.heap.size w w') : Blk K w' := at_old g h.lt h
/-- The numbers, and that the world has only grown. -/
def Kw (K B : Nat) (w0 w : World) : Prop := Blk K w ∧ Gr B w0 w
theorem Kw.drew {K B : Nat} {w0 w : World} (h : Kw K B w0 w) : Kw K B w0 w.drew := ⟨h.1, h.2.drew⟩
theorem Kw.step {K B : Nat} {w0 w w' : World} (h : Kw K B w0 w) (g : Below w.heap.size w w') : Kw K B w0 w' := ⟨h.1.below g, h.2.step g⟩
theorem Kw.hold2 {K B i k : Nat} {w0 w : World} (h : Kw K B w0 w) (hi : i < 18) (hk : k < 18) : w.cell? ⟨K, i, none⟩ = some (.int .i64 (endAt i)) ∧ w.cell? ⟨K, k, none⟩ = some (.int .i64 (endAt k)) ∧ Kw K B w0 w := ⟨h.1.cell i hi, h.1.cell k hk, h⟩
theorem Kw.hold3 {K B i k j : Nat} {w0 w : World} (h : Kw K B w0 w) (hi : i < 18) (hk : k < 18) (hj : j < 18) : w.cell? ⟨K, i, none⟩ = some (.int .i64 (endAt i)) ∧ w.cell? ⟨K, k, none⟩ = some (.int .i64 (endAt k)) ∧ w.cell? ⟨K, j, none⟩ = some (.int .i64 (endAt j)) ∧ Kw K B w0 w := ⟨h.1.cell i hi, h.1.cell k hk, h.1.cell j hj, h⟩
theorem tells_kw (i k : Nat) {K B : Nat} {w0 w : World} (h : Kw K B w0 w) :
    Calls Try.prog 7 #[.int .i64 (endAt i), .int .i64 (endAt k)] w fun e w' => e = .returned (.bool true) ∧ Kw K B w0 w' :=
  (satTells_walk _ (end_ok i) _ (end_ok k) w).mono fun _ _ ⟨he, hb⟩ => ⟨he, h.step hb⟩
theorem times_kw (i k : Nat) {K B : Nat} {w0 w : World} (h : Kw K B w0 w) :
    Calls Try.prog 8 #[.int .i64 (endAt i), .int .i64 (endAt k), .agg #[.int .i64 (endAt k), .int .i64 (endAt i)]] w fun e w' => e = .returned (.bool true) ∧ Kw K B w0 w' :=
  (satTimes_walk _ (end_ok i) _ (end_ok k) _ _ (end_ok k) (end_ok i) w).mono fun _ _ ⟨he, hb⟩ => ⟨he, h.step hb⟩
theorem answers_kw (i k j : Nat) {K B : Nat} {w0 w : World} (h : Kw K B w0 w) :
    Calls Try.prog 3 #[.int .i64 (endAt i), .int .i64 (endAt k), .int .i64 (endAt j)] w fun e w' => e = .returned (.bool true) ∧ Kw K B w0 w' :=
  (satAnswers_walk _ (end_ok i) _ (end_ok k) _ (end_ok j) w).mono fun _ _ ⟨he, hb⟩ => ⟨he, h.step hb⟩
theorem exact_kw (i k j : Nat) {K B : Nat} {w0 w : World} (h : Kw K B w0 w) :
    Calls Try.prog 4 #[.int .i64 (endAt i), .int .i64 (endAt k), .int .i64 (endAt j)] w fun e w' => e = .returned (.bool true) ∧ Kw K B w0 w' :=
  (satExact_walk _ (end_ok i) _ (end_ok k) _ (end_ok j) w).mono fun _ _ ⟨he, hb⟩ => ⟨he, h.step hb⟩
theorem sums_kw (i k j : Nat) {K B : Nat} {w0 w : World} (h : Kw K B w0 w) :
    Calls Try.prog 5 #[.int .i64 (endAt i), .int .i64 (endAt k), .int .i64 (endAt j)] w fun e w' => e = .returned (.bool true) ∧ Kw K B w0 w' :=
  (satSums_walk _ (end_ok i) _ (end_ok k) _ (end_ok j) w).mono fun _ _ ⟨he, hb⟩ => ⟨he, h.step hb⟩

set_option maxRecDepth 100000 in
set_option maxHeartbeats 4000000 in
theorem satKnown_walk (w : World) : Calls Try.prog 9 #[] w fun e w' => e = .returned (.bool true) ∧ Below w.heap.size w w' := by
  go_enter Try.func9, Try.ntmps9
  go_wp2
  go_loopw [2] (fun t wr => ∃ i : Nat, i ≤ 18 ∧ t = .int .i64 i ∧ Kw w.heap.size w.heap.size w wr) (fun t _ => (18 - intOf t).toNat)
  case atStart => exact ⟨0, by omega, rfl, ⟨heap_alloc_new _ _, (Gr.refl w).alloc _⟩⟩
  case round =>
    obtain ⟨i, hi, rfl, hkw⟩ := hrel
    have HK := Lib.hid hkw; clear hkw
    obtain ⟨wo, rfl⟩ : ∃ wo : World, wo = wr := ⟨_, rfl⟩
    by_cases hlt : i < 18
    · have hi0 : (0 : Int) ≤ (i : Int) := by omega
      have hi1 : (i : Int) < 18 := by omega
      go_wp2
      go_loopw [3] (fun t wr => ∃ k : Nat, k ≤ 18 ∧ t = .int .i64 k ∧ Kw w.heap.size w.heap.size w wr) (fun t _ => (18 - intOf t).toNat)
      case atStart => exact ⟨0, by omega, rfl, HK.out⟩
      case round =>
        obtain ⟨k, hk, rfl, hkw⟩ := hrel
        clear HK
        have HK := Lib.hid hkw; clear hkw
        by_cases hlk : k < 18
        · obtain ⟨c1, c2, c3⟩ := HK.out.hold2 hlt hlk
          have hk0 : (0 : Int) ≤ (k : Int) := by omega
          have hk1 : (k : Int) < 18 := by omega
          go_wp2
          go_region_held3 (fun w' => w'.cell? ⟨w.heap.size, i, none⟩ = some (.int .i64 (endAt i)) ∧ w'.cell? ⟨w.heap.size, k, none⟩ = some (.int .i64 (endAt k)) ∧ Kw w.heap.size w.heap.size w w') (first | exact ⟨by assumption, by assumption, by assumption⟩ | exact Kw.hold2 (by first | assumption | exact Kw.drew (by assumption)) hlt hlk) (first | (go_at_call 7; refine (tells_kw i k (by first | assumption | exact Kw.drew (by assumption))).mono ?_; rintro e wB ⟨rfl, hB⟩) | (go_at_call 8; refine (times_kw i k (by first | assumption | exact Kw.drew (by assumption))).mono ?_; rintro e wB ⟨rfl, hB⟩))
          go_wp2
          go_loopw [4] (fun t wr => ∃ j : Nat, j ≤ 18 ∧ t = .int .i64 j ∧ Kw w.heap.size w.heap.size w wr) (fun t _ => (18 - intOf t).toNat)
          case atStart => exact ⟨0, by omega, rfl, (by first | assumption | exact Kw.drew (by assumption))⟩
          case round =>
            obtain ⟨j, hj, rfl, hkw⟩ := hrel
            clear HK c1 c2 c3
            have HK := Lib.hid hkw; clear hkw
            by_cases hlj : j < 18
            · obtain ⟨c1, c2, c3, c4⟩ := HK.out.hold3 hlt hlk hlj
              have hj0 : (0 : Int) ≤ (j : Int) := by omega
              have hj1 : (j : Int) < 18 := by omega
              go_wp2
              go_region_held3 (fun w' => w'.cell? ⟨w.heap.size, i, none⟩ = some (.int .i64 (endAt i)) ∧ w'.cell? ⟨w.heap.size, k, none⟩ = some (.int .i64 (endAt k)) ∧ w'.cell? ⟨w.heap.size, j, none⟩ = some (.int .i64 (endAt j)) ∧ Kw w.heap.size w.heap.size w w') (first | exact ⟨by assumption, by assumption, by assumption, by assumption⟩ | exact Kw.hold3 (by first | assumption | exact Kw.drew (by assumption)) hlt hlk hlj) (first | (go_at_call 3; refine (answers_kw i k j (by first | assumption | exact Kw.drew (by assumption))).mono ?_; rintro e wB ⟨rfl, hB⟩) | (go_at_call 4; refine (exact_kw i k j (by first | assumption | exact Kw.drew (by assumption))).mono ?_; rintro e wB ⟨rfl, hB⟩) | (go_at_call 5; refine (sums_kw i k j (by first | assumption | exact Kw.drew (by assumption))).mono ?_; rintro e wB ⟨rfl, hB⟩))
              go_wp2
              go_roundw
              case rel => exact ⟨j + 1, by omega, by go_num, (by first | assumption | exact Kw.drew (by assumption))⟩
              case measure => simp [intOf]; omega
            · have H18 : (18 : Int) ≤ j := by omega
              go_wp2
              go_roundw
              case rel => first | exact ⟨k + 1, by omega, by go_num, HK.out⟩ | ((repeat apply Exists.intro); exact ⟨⟨k + 1, by omega, by go_num, HK.out⟩, rfl⟩)
              case measure => simp [intOf]; omega
        · go_wp2
          go_roundw
          case rel => first | exact ⟨i + 1, by omega, by go_num, HK.out⟩ | ((repeat apply Exists.intro); exact ⟨⟨i + 1, by omega, by go_num, HK.out⟩, rfl⟩)
          case measure => simp [intOf]; omega
    · have HG := Lib.hid HK.out.2
      go_wp2_with (go_at_call 44; refine (works1_any HG.out).mono ?_; rintro e w' ⟨rfl, gg⟩)
      go_ret
      exact ⟨rfl, gg.1⟩

end Go.Proofs.Ytcholjdbmmgakaa
