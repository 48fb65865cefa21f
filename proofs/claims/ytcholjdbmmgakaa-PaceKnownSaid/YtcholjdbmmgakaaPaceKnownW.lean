/- The walk of PaceKnown. -/
import Derived.Test.YtcholjdbmmgakaaPacePlaysW
namespace Go.Proofs.Ytcholjdbmmgakaa
open Go.RowKit Sat

def ENDP : List Int := [-9223372036854775808, -1, 0, 1, 5, 1200, 65535, 65536, 1073741824, 1073741825, 1099511627776, 1099511627777, 2251799813685249, 9007199254740991, 9007199254740992, 9223372036854775807]
def endP (i : Nat) : Int := ENDP.getD i 0
theorem endP_ok (i : Nat) : okI (endP i) := okI_getD (fun n hn => by
  have h : ENDP.all (fun n => decide (-9223372036854775808 ≤ n ∧ n ≤ 9223372036854775807)) = true := by decide
  have g := List.all_eq_true.1 h n hn
  simp only [decide_eq_true_eq] at g
  exact g) i
def BlkP (K : Nat) (w : World) : Prop := w.heap[K]? = some (.cells (ENDP.map (Value.int .i64)).toArray 3 (0, 0))
theorem BlkP.cell {K : Nat} {w : World} (h : BlkP K w) (i : Nat) (hi : i < 16) : w.cell? ⟨K, i, none⟩ = some (.int .i64 (endP i)) := by
  refine cellOf h ?_
  have hl : i < ENDP.length := hi
  unfold endP
  rw [List.getElem?_toArray, List.getElem?_map, List.getElem?_eq_getElem hl, List.getD_eq_getElem?_getD, List.getElem?_eq_getElem hl]
  rfl
theorem cells_rowP {w : World} {b : Nat} {zs : List Int} {t : TypeId} (h : w.heap[b]? = some (.cells (zs.map (Value.int .i64)).toArray t (0, 0))) : ∀ j, j < zs.length → w.cell? ⟨b, 0 + j, none⟩ = some (.int .i64 (zs.getD j 0)) := by
  intro j hj
  rw [Nat.zero_add]
  refine cellOf h ?_
  rw [List.getElem?_toArray, List.getElem?_map, List.getElem?_eq_getElem hj, List.getD_eq_getElem?_getD, List.getElem?_eq_getElem hj]
  rfl
def rowP (x y : Int) : List Int := [0, 5, x, y, 1, 5, 0, 900, 1, y, 0, x, 4, 9, 0, 9, 0, x, 1200, 3, 1, y, 0, 100, 5, x, 0, y]
theorem rowP_ok (x y : Int) (hx : okI x) (hy : okI y) : ∀ n ∈ rowP x y, okI n := by
  intro n hn
  obtain ⟨hx0, hx1⟩ := hx; obtain ⟨hy0, hy1⟩ := hy
  simp only [rowP, List.mem_cons, List.not_mem_nil, or_false] at hn
  constructor <;> omega
/-- The ends, in memory of the call's own. -/
def KP (K B : Nat) (w0 w : World) : Prop := BlkP K w ∧ Gr B w0 w
theorem KP.drew {K B : Nat} {w0 w : World} (h : KP K B w0 w) : KP K B w0 w.drew := ⟨h.1, h.2.drew⟩
theorem KP.step {K B : Nat} {w0 w w' : World} (h : KP K B w0 w) (g : Below w.heap.size w w') : KP K B w0 w' := ⟨at_old g (lt_of_block h.1) h.1, h.2.step g⟩
theorem KP.alloc {K B : Nat} {w0 w : World} (h : KP K B w0 w) (o : Obj) : KP K B w0 (w.alloc o) := h.step ((Below.refl _ _).alloc (Nat.le_refl _) _)
/-- And the row of calls. -/
structure KQ (K L : Nat) (x y : Int) (B : Nat) (w0 w : World) : Prop where
  kb : KP K B w0 w
  row : w.heap[L]? = some (.cells ((rowP x y).map (Value.int .i64)).toArray 99 (0, 0))
theorem KQ.drew {K L B : Nat} {x y : Int} {w0 w : World} (h : KQ K L x y B w0 w) : KQ K L x y B w0 w.drew := ⟨h.kb.drew, h.row⟩
theorem KQ.hold {K L B i k : Nat} {x y : Int} {w0 w : World} (h : KQ K L x y B w0 w) (hi : i < 16) (hk : k < 16) : w.cell? ⟨K, i, none⟩ = some (.int .i64 (endP i)) ∧ w.cell? ⟨K, k, none⟩ = some (.int .i64 (endP k)) ∧ KQ K L x y B w0 w := ⟨h.kb.1.cell i hi, h.kb.1.cell k hk, h⟩
theorem plays_kq {p q : Int} (x y : Int) (hx : okI x) (hy : okI y) {K L B : Nat} {w0 w : World} (h : KQ K L x y B w0 w) :
    Calls Try.prog 22 #[.int .i64 p, .int .i64 q, .slice (some ⟨L, 0, none⟩) 7 7] w fun e w' => e = .returned (.bool true) ∧ KQ K L x y B w0 w' :=
  (pacePlays_row w p q L 0 7 7 (rowP x y) (lt_of_block h.row) (fun j hj => cells_rowP h.row j hj) (by omega) (rowP_ok x y hx hy)).mono fun _ _ ⟨he, hb⟩ => ⟨he, h.kb.step hb, at_old hb (lt_of_block h.row) h.row⟩

/-- No pacer at all, or one that has no bucket. -/
def NoPk (p : Value) (w : World) : Prop := p = .pointer none ∨ ∃ a, p = .pointer (some ⟨a, 0, none⟩) ∧ w.cell? ⟨a, 0, none⟩ = some (.pointer none) ∧ a < w.heap.size
theorem NoPk.step {p : Value} {w w' : World} (h : NoPk p w) (g : Below w.heap.size w w') : NoPk p w' := by
  rcases h with rfl | ⟨a, rfl, hc, hl⟩
  · exact Or.inl rfl
  · exact Or.inr ⟨a, rfl, (g.cell (p := ⟨a, 0, none⟩) hl).trans hc, Nat.lt_of_lt_of_le hl g.size⟩
theorem nonePk_no (p : Value) (w : World) (h : NoPk p w) : Calls Try.prog 130 #[p] w fun e w' => e = .returned (.bool true) ∧ w = w' := by
  rcases h with rfl | ⟨a, rfl, hc, _⟩
  · go_enter Try.func130, Try.ntmps130
    go_wp2
    go_ret
    exact ⟨rfl, rfl⟩
  · go_enter Try.func130, Try.ntmps130
    go_wp2
    go_ret
    exact ⟨rfl, rfl⟩
theorem setPk_no (p : Value) (w : World) (h : NoPk p w) : Calls Try.prog 92 #[p, .int .i64 0, .int .i64 1, .int .i64 1] w fun e w' => e = .returned (.int .i64 1) ∧ w = w' := by
  have H := Lib.hid h; clear h
  go_enter Try.func92, Try.ntmps92
  go_wp2_with (first | (go_at_call 130; refine (nonePk_no _ _ H.out).mono ?_; rintro e w' ⟨rfl, rfl⟩))
  go_ret
  exact ⟨rfl, rfl⟩
theorem whenPk_no (p : Value) (w : World) (h : NoPk p w) : Calls Try.prog 101 #[p, .int .i64 1] w fun e w' => e = .returned (.int .i64 (-1)) ∧ w = w' := by
  have H := Lib.hid h; clear h
  go_enter Try.func101, Try.ntmps101
  go_wp2_with (first | (go_at_call 130; refine (nonePk_no _ _ H.out).mono ?_; rintro e w' ⟨rfl, rfl⟩))
  go_ret
  exact ⟨rfl, rfl⟩
theorem leftPk_no (p : Value) (w : World) (h : NoPk p w) : Calls Try.prog 105 #[p, .int .i64 0] w fun e w' => e = .returned (.int .i64 0) ∧ w = w' := by
  have H := Lib.hid h; clear h
  go_enter Try.func105, Try.ntmps105
  go_wp2_with (first | (go_at_call 130; refine (nonePk_no _ _ H.out).mono ?_; rintro e w' ⟨rfl, rfl⟩))
  go_ret
  exact ⟨rfl, rfl⟩
theorem copyPk_no (p : Value) (w : World) (h : NoPk p w) : Calls Try.prog 96 #[p] w fun e w' => e = .returned (.pointer none) ∧ w = w' := by
  have H := Lib.hid h; clear h
  go_enter Try.func96, Try.ntmps96
  go_wp2_with (first | (go_at_call 130; refine (nonePk_no _ _ H.out).mono ?_; rintro e w' ⟨rfl, rfl⟩))
  go_ret
  exact ⟨rfl, rfl⟩
theorem askedPk_no (p : Value) (k : Bool) (w : World) (h : NoPk p w) : Calls Try.prog 135 #[p, .func (Fn.func 136) #[] #[], .int .i64 0, .int .i64 1, .bool k] w fun e w' => e = .returned (.int .i64 1) ∧ w = w' := by
  have H := Lib.hid h; clear h
  go_enter Try.func135, Try.ntmps135
  go_wp2_with (first | (go_at_call 130; refine (nonePk_no _ _ H.out).mono ?_; rintro e w' ⟨rfl, rfl⟩))
  go_ret
  exact ⟨rfl, rfl⟩
theorem sendPk_no (p : Value) (w : World) (h : NoPk p w) : Calls Try.prog 94 #[p, .int .i64 0, .int .i64 1] w fun e w' => e = .returned (.int .i64 1) ∧ w = w' := by
  have H := Lib.hid h; clear h
  go_enter Try.func94, Try.ntmps94
  go_wp2_with (first | (go_at_call 135; refine (askedPk_no _ _ _ H.out).mono ?_; rintro e w' ⟨rfl, rfl⟩))
  go_ret
  exact ⟨rfl, rfl⟩
theorem canPk_no (p : Value) (w : World) (h : NoPk p w) : Calls Try.prog 102 #[p, .int .i64 0, .int .i64 1] w fun e w' => e = .returned (.bool false) ∧ w = w' := by
  have H := Lib.hid h; clear h
  go_enter Try.func102, Try.ntmps102
  go_wp2_with (first | (go_at_call 135; refine (askedPk_no _ _ _ H.out).mono ?_; rintro e w' ⟨rfl, rfl⟩))
  go_ret
  exact ⟨rfl, rfl⟩
theorem ratePk_no (p : Value) (w : World) (h : NoPk p w) : Calls Try.prog 103 #[p] w fun e w' => e = .returned (.agg #[.int .i64 0, .int .i64 0]) ∧ Below w.heap.size w w' := by
  have H := Lib.hid (h.step ((Below.refl _ _).alloc (Nat.le_refl _) (.cells #[.int .i64 0, .int .i64 0] 60 (0, 0)))); clear h
  go_enter Try.func103, Try.ntmps103
  go_wp2_with (first | (go_at_call 130; refine (nonePk_no _ _ H.out).mono ?_; rintro e w' ⟨rfl, rfl⟩))
  refine bodyPost_ret (v := .agg #[.int .i64 0, .int .i64 0]) ?_ rfl ⟨rfl, ?_⟩
  · simp [results, Try.results103, go_sem]
  · exact (Below.refl _ _).alloc (Nat.le_refl _) _

set_option maxRecDepth 100000 in
set_option maxHeartbeats 4000000 in
theorem paceKnown_walk (w : World) : Calls Try.prog 27 #[] w fun e w' => e = .returned (.bool true) ∧ Below w.heap.size w w' := by
  go_enter Try.func27, Try.ntmps27
  go_wp2
  go_loopw [2] (fun t wr => ∃ i : Nat, i ≤ 16 ∧ t = .int .i64 i ∧ KP w.heap.size w.heap.size w wr) (fun t _ => (16 - intOf t).toNat)
  case atStart => exact ⟨0, by omega, rfl, ⟨heap_alloc_new _ _, (Gr.refl w).alloc _⟩⟩
  case round =>
    obtain ⟨i, hi, rfl, hkw⟩ := hrel
    have HK := Lib.hid hkw; clear hkw
    obtain ⟨wo, rfl⟩ : ∃ wo : World, wo = wr := ⟨_, rfl⟩
    by_cases hlt : i < 16
    · have hi0 : (0 : Int) ≤ (i : Int) := by omega
      have hi1 : (i : Int) < 16 := by omega
      go_wp2
      go_loopw [3] (fun t wr => ∃ k : Nat, k ≤ 16 ∧ t = .int .i64 k ∧ KP w.heap.size w.heap.size w wr) (fun t _ => (16 - intOf t).toNat)
      case atStart => exact ⟨0, by omega, rfl, HK.out⟩
      case round =>
        obtain ⟨k, hk, rfl, hkw⟩ := hrel
        clear HK
        have HK := Lib.hid hkw; clear hkw
        by_cases hlk : k < 16
        · have c1 := HK.out.1.cell i hlt
          have c2 := HK.out.1.cell k hlk
          have l1 : w.heap.size < wr.heap.size := lt_of_block HK.out.1
          have hk0 : (0 : Int) ≤ (k : Int) := by omega
          have hk1 : (k : Int) < 16 := by omega
          go_wp2
          go_region_held3 (fun w' => w'.cell? ⟨w.heap.size, i, none⟩ = some (.int .i64 (endP i)) ∧ w'.cell? ⟨w.heap.size, k, none⟩ = some (.int .i64 (endP k))) (first | exact ⟨by assumption, by assumption⟩ | go_simp) (first | fail)
          have hr : KQ w.heap.size wr.heap.size (endP i) (endP k) w.heap.size w (wr.alloc (.cells ((rowP (endP i) (endP k)).map (Value.int .i64)).toArray 99 (0, 0))) := ⟨HK.out.alloc _, new_at _ _⟩
          go_wp2_with fail
          go_region_held3 (fun w' => w'.cell? ⟨w.heap.size, i, none⟩ = some (.int .i64 (endP i)) ∧ w'.cell? ⟨w.heap.size, k, none⟩ = some (.int .i64 (endP k))) (first | exact ⟨by assumption, by assumption⟩ | go_simp) (first | (go_at_call_has 22 (Value.int .i64 1000); refine (plays_kq _ _ (endP_ok i) (endP_ok k) hA2).mono ?_; rintro e wB ⟨rfl, hB⟩; obtain ⟨b1, b2, hB2⟩ := hB.hold hlt hlk) | (go_at_call_has 22 (Value.int .i64 1073741824); refine (plays_kq _ _ (endP_ok i) (endP_ok k) hB2).mono ?_; rintro e wC ⟨rfl, hC⟩; obtain ⟨d1, d2, hC2⟩ := hC.hold hlt hlk) | (go_at_call 22; refine (plays_kq _ _ (endP_ok i) (endP_ok k) (by repeat (first | exact hr | apply KQ.drew))).mono ?_; rintro e wA ⟨rfl, hA⟩; obtain ⟨a1, a2, hA2⟩ := hA.hold hlt hlk))
          go_wp2
          go_roundw
          case rel => exact ⟨k + 1, by omega, by go_num, (by first | exact hC2.kb | exact hC2.kb.drew)⟩
          case measure => simp [intOf]; omega
        · go_wp2
          go_roundw
          case rel => first | exact ⟨i + 1, by omega, by go_num, HK.out⟩ | ((repeat apply Exists.intro); exact ⟨⟨i + 1, by omega, by go_num, HK.out⟩, rfl⟩)
          case measure => simp [intOf]; omega
    · have HG := HK.out.2
      go_wp2_with fail
      go_loopw [5, 6] (fun p t wr => ∃ i : Nat, i ≤ 2 ∧ t = .int .i64 i ∧ NoPk p wr ∧ Gr w.heap.size w wr) (fun _ t _ => (2 - intOf t).toNat)
      case atStart => exact ⟨0, by omega, rfl, Or.inl rfl, HG⟩
      case round =>
        obtain ⟨k, hk, rfl, hno, hg⟩ := hrel
        rename_i p
        have HN := Lib.hid hno; clear hno
        by_cases hlk : k < 2
        · have hk0 : (0 : Int) ≤ (k : Int) := by omega
          have hk1 : (k : Int) < 2 := by omega
          go_wp2_with (first | (go_at_call 92; refine (setPk_no _ _ HN.out).mono ?_; rintro e w' ⟨rfl, rfl⟩) | (go_at_call 94; refine (sendPk_no _ _ HN.out).mono ?_; rintro e w' ⟨rfl, rfl⟩) | (go_at_call 102; refine (canPk_no _ _ HN.out).mono ?_; rintro e w' ⟨rfl, rfl⟩) | (go_at_call 101; refine (whenPk_no _ _ HN.out).mono ?_; rintro e w' ⟨rfl, rfl⟩) | (go_at_call 105; refine (leftPk_no _ _ HN.out).mono ?_; rintro e w' ⟨rfl, rfl⟩) | (go_at_call 103; refine (ratePk_no _ _ HN.out).mono ?_; rintro e wB ⟨rfl, hB⟩; have NB := Lib.hid (HN.out.step hB); have gB := hg.step hB; clear hB) | (go_at_call 96; refine (copyPk_no _ _ NB.out).mono ?_; rintro e w' ⟨rfl, rfl⟩))
          go_roundw
          case rel => exact ⟨k + 1, by omega, by go_num, Or.inr ⟨_, rfl, cellOf (new_at _ _) rfl, by simp⟩, gB.alloc _⟩
          case measure => simp [intOf]; omega
        · have hk1 : ¬ (k : Int) < 2 := by omega
          go_wp2_with (first | (go_at_call 91; refine (works14_any hg).mono ?_; rintro e wM ⟨rfl, hM⟩))
          go_ret
          exact ⟨rfl, hM.1⟩

end Go.Proofs.Ytcholjdbmmgakaa
