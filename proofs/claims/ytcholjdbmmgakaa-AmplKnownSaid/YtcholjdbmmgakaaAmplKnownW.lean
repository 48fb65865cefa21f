/- The walk of AmplKnown. -/
import Derived.Test.YtcholjdbmmgakaaAmplPlaysW
namespace Go.Proofs.Ytcholjdbmmgakaa
open Go.RowKit Sat

def ENDA : List Int := [-9223372036854775808, -1, 0, 1, 1200, 65535, 65536, 9007199254740991, 9223372036854775807]
def endA (i : Nat) : Int := ENDA.getD i 0
theorem endA_ok (i : Nat) : okI (endA i) := okI_getD (fun n hn => by
  have h : ENDA.all (fun n => decide (-9223372036854775808 ≤ n ∧ n ≤ 9223372036854775807)) = true := by decide
  have g := List.all_eq_true.1 h n hn
  simp only [decide_eq_true_eq] at g
  exact g) i
def BlkA (K : Nat) (w : World) : Prop := w.heap[K]? = some (.cells (ENDA.map (Value.int .i64)).toArray 3 (0, 0))
theorem BlkA.cell {K : Nat} {w : World} (h : BlkA K w) (i : Nat) (hi : i < 9) : w.cell? ⟨K, i, none⟩ = some (.int .i64 (endA i)) := by
  refine cellOf h ?_
  have hl : i < ENDA.length := hi
  unfold endA
  rw [List.getElem?_toArray, List.getElem?_map, List.getElem?_eq_getElem hl, List.getD_eq_getElem?_getD, List.getElem?_eq_getElem hl]
  rfl
theorem cells_row {w : World} {b : Nat} {zs : List Int} {t : TypeId} (h : w.heap[b]? = some (.cells (zs.map (Value.int .i64)).toArray t (0, 0))) : ∀ j, j < zs.length → w.cell? ⟨b, 0 + j, none⟩ = some (.int .i64 (zs.getD j 0)) := by
  intro j hj
  rw [Nat.zero_add]
  refine cellOf h ?_
  rw [List.getElem?_toArray, List.getElem?_map, List.getElem?_eq_getElem hj, List.getD_eq_getElem?_getD, List.getElem?_eq_getElem hj]
  rfl
def KA (K B : Nat) (w0 w : World) : Prop := BlkA K w ∧ Gr B w0 w
theorem KA.drew {K B : Nat} {w0 w : World} (h : KA K B w0 w) : KA K B w0 w.drew := ⟨h.1, h.2.drew⟩
theorem KA.step {K B : Nat} {w0 w w' : World} (h : KA K B w0 w) (g : Below w.heap.size w w') : KA K B w0 w' := ⟨at_old g (lt_of_block h.1) h.1, h.2.step g⟩
theorem KA.hold {K B i k : Nat} {w0 w : World} (h : KA K B w0 w) (hi : i < 9) (hk : k < 9) : w.cell? ⟨K, i, none⟩ = some (.int .i64 (endA i)) ∧ w.cell? ⟨K, k, none⟩ = some (.int .i64 (endA k)) ∧ KA K B w0 w := ⟨h.1.cell i hi, h.1.cell k hk, h⟩
theorem KA.alloc {K B : Nat} {w0 w : World} (h : KA K B w0 w) (o : Obj) : KA K B w0 (w.alloc o) := h.step ((Below.refl _ _).alloc (Nat.le_refl _) _)
theorem plays_ka (v : Bool) (x y : Int) (hx : okI x) (hy : okI y) {K B : Nat} {w0 w : World} (h : KA K B w0 w) (t : TypeId) :
    Calls Try.prog 14 #[.bool v, .slice (some ⟨w.heap.size, 0, none⟩) 7 7] (w.alloc (.cells #[.int .i64 0, .int .i64 x, .int .i64 3, .int .i64 y, .int .i64 6, .int .i64 x, .int .i64 0, .int .i64 y, .int .i64 3, .int .i64 x, .int .i64 7, .int .i64 5, .int .i64 3, .int .i64 y] t (0, 0))) fun e w' => e = .returned (.bool true) ∧ KA K B w0 w' := by
  have hnew := new_at w (.cells #[.int .i64 0, .int .i64 x, .int .i64 3, .int .i64 y, .int .i64 6, .int .i64 x, .int .i64 0, .int .i64 y, .int .i64 3, .int .i64 x, .int .i64 7, .int .i64 5, .int .i64 3, .int .i64 y] t (0, 0))
  have hrow := cells_row (zs := [0, x, 3, y, 6, x, 0, y, 3, x, 7, 5, 3, y]) hnew
  refine (amplPlays_some _ v w.heap.size 0 7 7 [0, x, 3, y, 6, x, 0, y, 3, x, 7, 5, 3, y] (lt_of_block hnew) (fun j hj => hrow j hj) (by omega) ?_).mono fun e w' ⟨he, hb⟩ => ⟨he, (h.alloc _).step hb⟩
  intro n hn
  obtain ⟨hx0, hx1⟩ := hx; obtain ⟨hy0, hy1⟩ := hy
  simp only [List.mem_cons, List.not_mem_nil, or_false] at hn
  constructor <;> omega

/-- No limit at all, or a zero one. -/
def NoLim (p : Value) (w : World) : Prop := p = .pointer none ∨ ∃ a, p = .pointer (some ⟨a, 0, none⟩) ∧ w.cell? ⟨a, 3, none⟩ = some .nilFunc
theorem none_no (p : Value) (w : World) (h : NoLim p w) : Calls Try.prog 114 #[p] w fun e w' => e = .returned (.bool true) ∧ w = w' := by
  rcases h with rfl | ⟨a, rfl, hc⟩
  · go_enter Try.func114, Try.ntmps114
    go_wp2
    go_ret
    exact ⟨rfl, rfl⟩
  · have he : ∀ w : World, (binOp .eql 56 .nilFunc .nilFunc).run Try.prog w = .ok (.bool true) w := fun _ => by kernel_rfl
    go_enter Try.func114, Try.ntmps114
    go_wp2
    go_ret
    exact ⟨rfl, rfl⟩
theorem got_no (p : Value) (w : World) (h : NoLim p w) : Calls Try.prog 58 #[p, .int .i64 0] w fun e w' => e = .returned (.int .i64 1) ∧ w = w' := by
  have H := Lib.hid h; clear h
  go_enter Try.func58, Try.ntmps58
  go_wp2_with (go_at_call 114; refine (none_no _ _ H.out).mono ?_; rintro e w' ⟨rfl, rfl⟩)
  go_ret
  exact ⟨rfl, rfl⟩
theorem sent_no (p : Value) (w : World) (h : NoLim p w) : Calls Try.prog 59 #[p, .int .i64 0] w fun e w' => e = .returned (.int .i64 1) ∧ w = w' := by
  have H := Lib.hid h; clear h
  go_enter Try.func59, Try.ntmps59
  go_wp2_with (go_at_call 114; refine (none_no _ _ H.out).mono ?_; rintro e w' ⟨rfl, rfl⟩)
  go_ret
  exact ⟨rfl, rfl⟩
theorem validate_no (p : Value) (w : World) (h : NoLim p w) : Calls Try.prog 65 #[p] w fun e w' => e = .returned (.int .i64 1) ∧ w = w' := by
  have H := Lib.hid h; clear h
  go_enter Try.func65, Try.ntmps65
  go_wp2_with (go_at_call 114; refine (none_no _ _ H.out).mono ?_; rintro e w' ⟨rfl, rfl⟩)
  go_ret
  exact ⟨rfl, rfl⟩
theorem valid_no (p : Value) (w : World) (h : NoLim p w) : Calls Try.prog 64 #[p] w fun e w' => e = .returned (.bool false) ∧ w = w' := by
  have H := Lib.hid h; clear h
  go_enter Try.func64, Try.ntmps64
  go_wp2_with (go_at_call 114; refine (none_no _ _ H.out).mono ?_; rintro e w' ⟨rfl, rfl⟩)
  go_ret
  exact ⟨rfl, rfl⟩
theorem left_no (p : Value) (w : World) (h : NoLim p w) : Calls Try.prog 61 #[p] w fun e w' => e = .returned (.int .i64 0) ∧ w = w' := by
  have H := Lib.hid h; clear h
  go_enter Try.func61, Try.ntmps61
  go_wp2_with (go_at_call 114; refine (none_no _ _ H.out).mono ?_; rintro e w' ⟨rfl, rfl⟩)
  go_ret
  exact ⟨rfl, rfl⟩
theorem can_no (p : Value) (w : World) (h : NoLim p w) : Calls Try.prog 63 #[p, .int .i64 0] w fun e w' => e = .returned (.bool false) ∧ w = w' := by
  have H := Lib.hid h; clear h
  go_enter Try.func63, Try.ntmps63
  go_wp2_with (go_at_call 114; refine (none_no _ _ H.out).mono ?_; rintro e w' ⟨rfl, rfl⟩)
  go_ret
  exact ⟨rfl, rfl⟩
theorem totals_no (p : Value) (w : World) (h : NoLim p w) : Calls Try.prog 60 #[p] w fun e w' => e = .returned (.tuple #[.int .i64 0, .int .i64 0]) ∧ w = w' := by
  have H := Lib.hid h; clear h
  go_enter Try.func60, Try.ntmps60
  go_wp2_with (go_at_call 114; refine (none_no _ _ H.out).mono ?_; rintro e w' ⟨rfl, rfl⟩)
  go_ret2
  exact ⟨rfl, rfl⟩
theorem copy_no (p : Value) (w : World) (h : NoLim p w) : Calls Try.prog 70 #[p] w fun e w' => e = .returned (.pointer none) ∧ w = w' := by
  have H := Lib.hid h; clear h
  go_enter Try.func70, Try.ntmps70
  go_wp2_with (go_at_call 114; refine (none_no _ _ H.out).mono ?_; rintro e w' ⟨rfl, rfl⟩)
  go_ret
  exact ⟨rfl, rfl⟩

set_option maxRecDepth 100000 in
set_option maxHeartbeats 4000000 in
theorem amplKnown_walk (w : World) : Calls Try.prog 15 #[] w fun e w' => e = .returned (.bool true) ∧ Below w.heap.size w w' := by
  go_enter Try.func15, Try.ntmps15
  go_wp2
  go_loopw [2] (fun t wr => ∃ i : Nat, i ≤ 9 ∧ t = .int .i64 i ∧ KA w.heap.size w.heap.size w wr) (fun t _ => (9 - intOf t).toNat)
  case atStart => exact ⟨0, by omega, rfl, ⟨heap_alloc_new _ _, (Gr.refl w).alloc _⟩⟩
  case round =>
    obtain ⟨i, hi, rfl, hkw⟩ := hrel
    have HK := Lib.hid hkw; clear hkw
    obtain ⟨wo, rfl⟩ : ∃ wo : World, wo = wr := ⟨_, rfl⟩
    by_cases hlt : i < 9
    · have hi0 : (0 : Int) ≤ (i : Int) := by omega
      have hi1 : (i : Int) < 9 := by omega
      go_wp2
      go_loopw [3] (fun t wr => ∃ k : Nat, k ≤ 9 ∧ t = .int .i64 k ∧ KA w.heap.size w.heap.size w wr) (fun t _ => (9 - intOf t).toNat)
      case atStart => exact ⟨0, by omega, rfl, HK.out⟩
      case round =>
        obtain ⟨k, hk, rfl, hkw⟩ := hrel
        clear HK
        have HK := Lib.hid hkw; clear hkw
        by_cases hlk : k < 9
        · obtain ⟨c1, c2, c3⟩ := HK.out.hold hlt hlk
          have hk0 : (0 : Int) ≤ (k : Int) := by omega
          have hk1 : (k : Int) < 9 := by omega
          go_wp2
          go_region_held3 (fun w' => w'.cell? ⟨w.heap.size, i, none⟩ = some (.int .i64 (endA i)) ∧ w'.cell? ⟨w.heap.size, k, none⟩ = some (.int .i64 (endA k)) ∧ KA w.heap.size w.heap.size w w') (first | exact ⟨by assumption, by assumption, by assumption⟩ | exact KA.hold (by first | assumption | exact KA.drew (by assumption) | exact KA.alloc (by assumption) _ | exact KA.drew (KA.alloc (by assumption) _)) hlt hlk) (first | (go_at_call 14; refine (plays_ka (w := wr.drew) _ _ _ (endA_ok i) (endA_ok k) (KA.drew (by assumption)) _).mono ?_; rintro e wB ⟨rfl, hB⟩))
          go_wp2
          go_roundw
          case rel => exact ⟨k + 1, by omega, by go_num, (by first | assumption | exact KA.drew (by assumption))⟩
          case measure => simp [intOf]; omega
        · go_wp2
          go_roundw
          case rel => first | exact ⟨i + 1, by omega, by go_num, HK.out⟩ | ((repeat apply Exists.intro); exact ⟨⟨i + 1, by omega, by go_num, HK.out⟩, rfl⟩)
          case measure => simp [intOf]; omega
    · have HG := HK.out.2
      go_wp2_with fail
      go_loopw [4, 5] (fun p t wr => ∃ i : Nat, i ≤ 2 ∧ t = .int .i64 i ∧ NoLim p wr ∧ Gr w.heap.size w wr) (fun _ t _ => (2 - intOf t).toNat)
      case atStart => exact ⟨0, by omega, rfl, Or.inl rfl, HG⟩
      case round =>
        obtain ⟨k, hk, rfl, hno, hg⟩ := hrel
        rename_i p
        have HN := Lib.hid hno; clear hno
        by_cases hlk : k < 2
        · have hk0 : (0 : Int) ≤ (k : Int) := by omega
          have hk1 : (k : Int) < 2 := by omega
          go_wp2_with (first | (go_at_call 60; refine (totals_no _ _ HN.out).mono ?_; rintro e w' ⟨rfl, rfl⟩) | (go_at_call 58; refine (got_no _ _ HN.out).mono ?_; rintro e w' ⟨rfl, rfl⟩) | (go_at_call 59; refine (sent_no _ _ HN.out).mono ?_; rintro e w' ⟨rfl, rfl⟩) | (go_at_call 65; refine (validate_no _ _ HN.out).mono ?_; rintro e w' ⟨rfl, rfl⟩) | (go_at_call 64; refine (valid_no _ _ HN.out).mono ?_; rintro e w' ⟨rfl, rfl⟩) | (go_at_call 61; refine (left_no _ _ HN.out).mono ?_; rintro e w' ⟨rfl, rfl⟩) | (go_at_call 63; refine (can_no _ _ HN.out).mono ?_; rintro e w' ⟨rfl, rfl⟩) | (go_at_call 70; refine (copy_no _ _ HN.out).mono ?_; rintro e w' ⟨rfl, rfl⟩))
          go_roundw
          case rel => exact ⟨k + 1, by omega, by go_num, Or.inr ⟨_, rfl, cellOf (new_at _ _) rfl⟩, hg.alloc _⟩
          case measure => simp [intOf]; omega
        · have f4 : leftOf 0 0 true = 9007199254740991 := rfl
          have hk1 : ¬ (k : Int) < 2 := by omega
          go_wp2_with fail
          refine (new_aw true hg).mono ?_
          rintro e wN ⟨rfl, hN⟩
          go_wp2_with (first | (go_at_call 55; refine (works15_any (Gr.refl _)).mono ?_; rintro e wM ⟨rfl, hM⟩; have hP := hN.step hM.1) | (go_at_call 64; refine (valid_aw hP).mono ?_; rintro e wQ ⟨rfl, hQ⟩) | (go_at_call 61; refine (left_aw hQ).mono ?_; rintro e wR ⟨rfl, hR⟩))
          go_ret
          exact ⟨rfl, hR.gr.1⟩

end Go.Proofs.Ytcholjdbmmgakaa
