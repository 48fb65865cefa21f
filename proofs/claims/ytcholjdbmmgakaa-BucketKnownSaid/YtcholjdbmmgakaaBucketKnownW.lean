/- The walk of BucketKnown. -/
import Derived.Test.YtcholjdbmmgakaaBucketPlaysW
namespace Go.Proofs.Ytcholjdbmmgakaa
open Go.RowKit Sat

def ENDB : List Int := [-9223372036854775808, -1, 0, 1, 7, 1073741824, 1073741825, 8796093022208, 8796093022209, 9007199254740991, 9007199254740992, 9223372036854775807]
def endB (i : Nat) : Int := ENDB.getD i 0
theorem endB_ok (i : Nat) : okI (endB i) := okI_getD (fun n hn => by
  have h : ENDB.all (fun n => decide (-9223372036854775808 ≤ n ∧ n ≤ 9223372036854775807)) = true := by decide
  have g := List.all_eq_true.1 h n hn
  simp only [decide_eq_true_eq] at g
  exact g) i
def BlkB (K : Nat) (w : World) : Prop := w.heap[K]? = some (.cells (ENDB.map (Value.int .i64)).toArray 3 (0, 0))
theorem BlkB.cell {K : Nat} {w : World} (h : BlkB K w) (i : Nat) (hi : i < 12) : w.cell? ⟨K, i, none⟩ = some (.int .i64 (endB i)) := by
  refine cellOf h ?_
  have hl : i < ENDB.length := hi
  unfold endB
  rw [List.getElem?_toArray, List.getElem?_map, List.getElem?_eq_getElem hl, List.getD_eq_getElem?_getD, List.getElem?_eq_getElem hl]
  rfl
theorem cells_rowB {w : World} {b : Nat} {zs : List Int} {t : TypeId} (h : w.heap[b]? = some (.cells (zs.map (Value.int .i64)).toArray t (0, 0))) : ∀ j, j < zs.length → w.cell? ⟨b, 0 + j, none⟩ = some (.int .i64 (zs.getD j 0)) := by
  intro j hj
  rw [Nat.zero_add]
  refine cellOf h ?_
  rw [List.getElem?_toArray, List.getElem?_map, List.getElem?_eq_getElem hj, List.getD_eq_getElem?_getD, List.getElem?_eq_getElem hj]
  rfl
def rowB (x y : Int) : List Int := [3, 0, 900, 0, 0, 0, 10, 0, 3, 7, 0, 11, 0, x, y, 5, 0, 950, x, y, 3, 0, x, 0, 0, 5, 0, y, 3, 7, 0, y, 0, 1, 1099511627776, 7, 0, 0, 0, 0, 0, 9007199254740991, 0, 8796093022208, x]
theorem rowB_ok (x y : Int) (hx : okI x) (hy : okI y) : ∀ n ∈ rowB x y, okI n := by
  intro n hn
  obtain ⟨hx0, hx1⟩ := hx; obtain ⟨hy0, hy1⟩ := hy
  simp only [rowB, List.mem_cons, List.not_mem_nil, or_false] at hn
  constructor <;> omega
/-- The ends, in memory of the call's own. -/
def KB (K B : Nat) (w0 w : World) : Prop := BlkB K w ∧ Gr B w0 w
theorem KB.drew {K B : Nat} {w0 w : World} (h : KB K B w0 w) : KB K B w0 w.drew := ⟨h.1, h.2.drew⟩
theorem KB.step {K B : Nat} {w0 w w' : World} (h : KB K B w0 w) (g : Below w.heap.size w w') : KB K B w0 w' := ⟨at_old g (lt_of_block h.1) h.1, h.2.step g⟩
theorem KB.alloc {K B : Nat} {w0 w : World} (h : KB K B w0 w) (o : Obj) : KB K B w0 (w.alloc o) := h.step ((Below.refl _ _).alloc (Nat.le_refl _) _)
/-- And the row of calls. -/
structure KR (K L : Nat) (x y : Int) (B : Nat) (w0 w : World) : Prop where
  kb : KB K B w0 w
  row : w.heap[L]? = some (.cells ((rowB x y).map (Value.int .i64)).toArray 77 (0, 0))
theorem KR.drew {K L B : Nat} {x y : Int} {w0 w : World} (h : KR K L x y B w0 w) : KR K L x y B w0 w.drew := ⟨h.kb.drew, h.row⟩
theorem KR.hold {K L B i k : Nat} {x y : Int} {w0 w : World} (h : KR K L x y B w0 w) (hi : i < 12) (hk : k < 12) : w.cell? ⟨K, i, none⟩ = some (.int .i64 (endB i)) ∧ w.cell? ⟨K, k, none⟩ = some (.int .i64 (endB k)) ∧ KR K L x y B w0 w := ⟨h.kb.1.cell i hi, h.kb.1.cell k hk, h⟩
theorem plays_kr {p q : Int} (x y : Int) (hx : okI x) (hy : okI y) {K L B : Nat} {w0 w : World} (h : KR K L x y B w0 w) :
    Calls Try.prog 18 #[.int .i64 p, .int .i64 q, .slice (some ⟨L, 0, none⟩) 9 9] w fun e w' => e = .returned (.bool true) ∧ KR K L x y B w0 w' :=
  (bucketPlays_row w p q L 0 9 9 (rowB x y) (lt_of_block h.row) (fun j hj => cells_rowB h.row j hj) (by omega) (rowB_ok x y hx hy)).mono fun _ _ ⟨he, hb⟩ => ⟨he, h.kb.step hb, at_old hb (lt_of_block h.row) h.row⟩

/-- No bucket at all, or a zero one. -/
def NoBk (p : Value) (w : World) : Prop := p = .pointer none ∨ ∃ a, p = .pointer (some ⟨a, 0, none⟩) ∧ w.cell? ⟨a, 0, none⟩ = some (.int .i64 0) ∧ a < w.heap.size
theorem NoBk.step {p : Value} {w w' : World} (h : NoBk p w) (g : Below w.heap.size w w') : NoBk p w' := by
  rcases h with rfl | ⟨a, rfl, hc, hl⟩
  · exact Or.inl rfl
  · exact Or.inr ⟨a, rfl, (g.cell (p := ⟨a, 0, none⟩) hl).trans hc, Nat.lt_of_lt_of_le hl g.size⟩
theorem noneBk_no (p : Value) (w : World) (h : NoBk p w) : Calls Try.prog 119 #[p] w fun e w' => e = .returned (.bool true) ∧ w = w' := by
  rcases h with rfl | ⟨a, rfl, hc, _⟩
  · go_enter Try.func119, Try.ntmps119
    go_wp2
    go_ret
    exact ⟨rfl, rfl⟩
  · go_enter Try.func119, Try.ntmps119
    go_wp2
    go_ret
    exact ⟨rfl, rfl⟩
theorem takeBk_no (p : Value) (w : World) (h : NoBk p w) : Calls Try.prog 75 #[p, .int .i64 0] w fun e w' => e = .returned (.int .i64 1) ∧ w = w' := by
  have H := Lib.hid h; clear h
  go_enter Try.func75, Try.ntmps75
  go_wp2_with (go_at_call 119; refine (noneBk_no _ _ H.out).mono ?_; rintro e w' ⟨rfl, rfl⟩)
  go_ret
  exact ⟨rfl, rfl⟩
theorem tokensBk_no (p : Value) (w : World) (h : NoBk p w) : Calls Try.prog 77 #[p] w fun e w' => e = .returned (.int .i64 0) ∧ w = w' := by
  have H := Lib.hid h; clear h
  go_enter Try.func77, Try.ntmps77
  go_wp2_with (go_at_call 119; refine (noneBk_no _ _ H.out).mono ?_; rintro e w' ⟨rfl, rfl⟩)
  go_ret
  exact ⟨rfl, rfl⟩
theorem restBk_no (p : Value) (w : World) (h : NoBk p w) : Calls Try.prog 78 #[p] w fun e w' => e = .returned (.int .i64 0) ∧ w = w' := by
  have H := Lib.hid h; clear h
  go_enter Try.func78, Try.ntmps78
  go_wp2_with (go_at_call 119; refine (noneBk_no _ _ H.out).mono ?_; rintro e w' ⟨rfl, rfl⟩)
  go_ret
  exact ⟨rfl, rfl⟩
theorem timeBk_no (p : Value) (w : World) (h : NoBk p w) : Calls Try.prog 88 #[p] w fun e w' => e = .returned (.int .i64 0) ∧ w = w' := by
  have H := Lib.hid h; clear h
  go_enter Try.func88, Try.ntmps88
  go_wp2_with (go_at_call 119; refine (noneBk_no _ _ H.out).mono ?_; rintro e w' ⟨rfl, rfl⟩)
  go_ret
  exact ⟨rfl, rfl⟩
theorem copyBk_no (p : Value) (w : World) (h : NoBk p w) : Calls Try.prog 86 #[p] w fun e w' => e = .returned (.pointer none) ∧ w = w' := by
  have H := Lib.hid h; clear h
  go_enter Try.func86, Try.ntmps86
  go_wp2_with (go_at_call 119; refine (noneBk_no _ _ H.out).mono ?_; rintro e w' ⟨rfl, rfl⟩)
  go_ret
  exact ⟨rfl, rfl⟩
theorem fillBk_no (p : Value) (y : Int) (w : World) (h : NoBk p w) : Calls Try.prog 76 #[p, .int .i64 0, .agg #[.int .i64 0, .int .i64 y]] w fun e w' => e = .returned (.int .i64 (1)) ∧ Below w.heap.size w w' := by
  have H := Lib.hid (h.step ((Below.refl _ _).alloc (Nat.le_refl _) (.cells #[.int .i64 0, .int .i64 y] 60 (0, 0)))); clear h
  go_enter Try.func76, Try.ntmps76
  go_wp2_with (go_at_call 119; refine (noneBk_no _ _ H.out).mono ?_; rintro e w' ⟨rfl, rfl⟩)
  go_ret
  exact ⟨rfl, (Below.refl _ _).alloc (Nat.le_refl _) _⟩
theorem whenBk_no (p : Value) (y : Int) (w : World) (h : NoBk p w) : Calls Try.prog 83 #[p, .int .i64 0, .agg #[.int .i64 0, .int .i64 y]] w fun e w' => e = .returned (.int .i64 (-1)) ∧ Below w.heap.size w w' := by
  have H := Lib.hid (h.step ((Below.refl _ _).alloc (Nat.le_refl _) (.cells #[.int .i64 0, .int .i64 y] 60 (0, 0)))); clear h
  go_enter Try.func83, Try.ntmps83
  go_wp2_with (go_at_call 119; refine (noneBk_no _ _ H.out).mono ?_; rintro e w' ⟨rfl, rfl⟩)
  go_ret
  exact ⟨rfl, (Below.refl _ _).alloc (Nat.le_refl _) _⟩

set_option maxRecDepth 100000 in
set_option maxHeartbeats 4000000 in
theorem bucketKnown_walk (w : World) : Calls Try.prog 21 #[] w fun e w' => e = .returned (.bool true) ∧ Below w.heap.size w w' := by
  go_enter Try.func21, Try.ntmps21
  go_wp2
  go_loopw [2] (fun t wr => ∃ i : Nat, i ≤ 12 ∧ t = .int .i64 i ∧ KB w.heap.size w.heap.size w wr) (fun t _ => (12 - intOf t).toNat)
  case atStart => exact ⟨0, by omega, rfl, ⟨heap_alloc_new _ _, (Gr.refl w).alloc _⟩⟩
  case round =>
    obtain ⟨i, hi, rfl, hkw⟩ := hrel
    have HK := Lib.hid hkw; clear hkw
    obtain ⟨wo, rfl⟩ : ∃ wo : World, wo = wr := ⟨_, rfl⟩
    by_cases hlt : i < 12
    · have hi0 : (0 : Int) ≤ (i : Int) := by omega
      have hi1 : (i : Int) < 12 := by omega
      go_wp2
      go_loopw [3] (fun t wr => ∃ k : Nat, k ≤ 12 ∧ t = .int .i64 k ∧ KB w.heap.size w.heap.size w wr) (fun t _ => (12 - intOf t).toNat)
      case atStart => exact ⟨0, by omega, rfl, HK.out⟩
      case round =>
        obtain ⟨k, hk, rfl, hkw⟩ := hrel
        clear HK
        have HK := Lib.hid hkw; clear hkw
        by_cases hlk : k < 12
        · have c1 := HK.out.1.cell i hlt
          have c2 := HK.out.1.cell k hlk
          have l1 : w.heap.size < wr.heap.size := lt_of_block HK.out.1
          have hk0 : (0 : Int) ≤ (k : Int) := by omega
          have hk1 : (k : Int) < 12 := by omega
          go_wp2
          go_region_held3 (fun w' => w'.cell? ⟨w.heap.size, i, none⟩ = some (.int .i64 (endB i)) ∧ w'.cell? ⟨w.heap.size, k, none⟩ = some (.int .i64 (endB k))) (first | exact ⟨by assumption, by assumption⟩ | go_simp) (first | fail)
          have hr : KR w.heap.size wr.heap.size (endB i) (endB k) w.heap.size w (wr.alloc (.cells ((rowB (endB i) (endB k)).map (Value.int .i64)).toArray 77 (0, 0))) := ⟨HK.out.alloc _, new_at _ _⟩
          go_wp2_with fail
          go_region_held3 (fun w' => w'.cell? ⟨w.heap.size, i, none⟩ = some (.int .i64 (endB i)) ∧ w'.cell? ⟨w.heap.size, k, none⟩ = some (.int .i64 (endB k))) (first | exact ⟨by assumption, by assumption⟩ | go_simp) (first | (go_at_call_has 18 (Value.int .i64 1000); refine (plays_kr _ _ (endB_ok i) (endB_ok k) (by repeat (first | exact hr | apply KR.drew))).mono ?_; rintro e wA ⟨rfl, hA⟩; obtain ⟨a1, a2, hA2⟩ := hA.hold hlt hlk) | (go_at_call 18; refine (plays_kr _ _ (endB_ok i) (endB_ok k) hA2).mono ?_; rintro e wB ⟨rfl, hB⟩; obtain ⟨b1, b2, hB2⟩ := hB.hold hlt hlk))
          go_wp2
          go_roundw
          case rel => exact ⟨k + 1, by omega, by go_num, (by first | exact hB2.kb | exact hB2.kb.drew)⟩
          case measure => simp [intOf]; omega
        · go_wp2
          go_roundw
          case rel => first | exact ⟨i + 1, by omega, by go_num, HK.out⟩ | ((repeat apply Exists.intro); exact ⟨⟨i + 1, by omega, by go_num, HK.out⟩, rfl⟩)
          case measure => simp [intOf]; omega
    · have HG := HK.out.2
      go_wp2_with fail
      go_loopw [5, 6] (fun p t wr => ∃ i : Nat, i ≤ 2 ∧ t = .int .i64 i ∧ NoBk p wr ∧ Gr w.heap.size w wr) (fun _ t _ => (2 - intOf t).toNat)
      case atStart => exact ⟨0, by omega, rfl, Or.inl rfl, HG⟩
      case round =>
        obtain ⟨k, hk, rfl, hno, hg⟩ := hrel
        rename_i p
        have HN := Lib.hid hno; clear hno
        by_cases hlk : k < 2
        · have hk0 : (0 : Int) ≤ (k : Int) := by omega
          have hk1 : (k : Int) < 2 := by omega
          go_wp2_with (first | (go_at_call 76; refine (fillBk_no _ _ _ HN.out).mono ?_; rintro e wA ⟨rfl, hA⟩; have NA := Lib.hid (HN.out.step hA); have gA := hg.step hA; clear hA) | (go_at_call 75; refine (takeBk_no _ _ NA.out).mono ?_; rintro e w' ⟨rfl, rfl⟩) | (go_at_call 83; refine (whenBk_no _ _ _ NA.out).mono ?_; rintro e wB ⟨rfl, hB⟩; have NB := Lib.hid (NA.out.step hB); have gB := gA.step hB; clear hB) | (go_at_call 77; refine (tokensBk_no _ _ NB.out).mono ?_; rintro e w' ⟨rfl, rfl⟩) | (go_at_call 78; refine (restBk_no _ _ NB.out).mono ?_; rintro e w' ⟨rfl, rfl⟩) | (go_at_call 88; refine (timeBk_no _ _ NB.out).mono ?_; rintro e w' ⟨rfl, rfl⟩) | (go_at_call 86; refine (copyBk_no _ _ NB.out).mono ?_; rintro e w' ⟨rfl, rfl⟩))
          go_roundw
          case rel => exact ⟨k + 1, by omega, by go_num, Or.inr ⟨_, rfl, cellOf (new_at _ _) rfl, by simp⟩, gB.alloc _⟩
          case measure => simp [intOf]; omega
        · have hk1 : ¬ (k : Int) < 2 := by omega
          go_wp2_with (first | (go_at_call 79; refine (works13_any hg).mono ?_; rintro e wM ⟨rfl, hM⟩))
          go_ret
          exact ⟨rfl, hM.1⟩

end Go.Proofs.Ytcholjdbmmgakaa
