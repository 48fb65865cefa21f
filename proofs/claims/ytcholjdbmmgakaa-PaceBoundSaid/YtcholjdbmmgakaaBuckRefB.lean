/- The reference of layer 13: has, When. -/
import Derived.Test.YtcholjdbmmgakaaBuckRef
namespace Go.Proofs.Ytcholjdbmmgakaa
open Go.RowKit Sat

/-- A bucket of the reference and a rate beside it, in memory of the call's own but for the bucket. -/
structure RW (a : Nat) (s : BS) (K : Nat) (x y : Int) (B : Nat) (w0 w : World) : Prop where
  bk : RBk a s w
  rt : RRt K x y w
  gr : Gr B w0 w
section
variable {a K : Nat} {s : BS} {x y : Int} {B : Nat} {w0 w w' : World}
theorem RW.step (h : RW a s K x y B w0 w) (g : Below w.heap.size w w') : RW a s K x y B w0 w' := ⟨h.bk.below g, at_old g (lt_of_block h.rt) h.rt, h.gr.step g⟩
theorem RW.hold (h : RW a s K x y B w0 w) : w.cell? ⟨a, 0, none⟩ = some (.int .i64 s.b) ∧ w.cell? ⟨a, 1, none⟩ = some (.int .i64 s.n) ∧ w.cell? ⟨a, 3, none⟩ = some (.int .i64 s.t) ∧ w.cell? ⟨K, 0, none⟩ = some (.int .i64 x) ∧ w.cell? ⟨K, 1, none⟩ = some (.int .i64 y) :=
  ⟨cellOf h.bk rfl, cellOf h.bk rfl, cellOf h.bk rfl, cellOf h.rt rfl, cellOf h.rt rfl⟩
end
def hasB (s : BS) (n x y t : Int) : Bool := decide (n ≤ (s.filled t x y).n)
set_option maxRecDepth 100000 in
set_option maxHeartbeats 1600000 in
theorem rbHas_any (a : Nat) (s : BS) (n x y t : Int) (w : World) (h : RBk a s w) (hs : s.Ok) :
    Calls Try.prog 129 #[.pointer (some ⟨a, 0, none⟩), .int .i64 n, .agg #[.int .i64 x, .int .i64 y], .int .i64 t] w fun e w' => e = .returned (.bool (hasB s n x y t)) ∧ Below w.heap.size w w' := by
  unfold hasB
  have H := Lib.hid h; clear h
  go_enter Try.func129, Try.ntmps129
  go_wp2_with fail
  refine (rbCopy_any a s _ (show RBk a s _ from old_at _ H.out)).mono ?_
  rintro e w1 ⟨rfl, hc, hb⟩
  have hr := at_old hb (by simp) (new_at w (.cells #[.int .i64 x, .int .i64 y] 79 (0, 0)))
  have q0 := cellOf (o := 0) hr rfl
  have q1 := cellOf (o := 1) hr rfl
  have HR := Lib.hid hr; clear hr
  have hbl : Below w.heap.size w w1 := ((Below.refl _ _).alloc (Nat.le_refl _) _).trans (hb.mono (by simp))
  simp only [World.size_alloc] at hc
  clear hb
  have HC := Lib.hid hc; clear hc
  have HB := Lib.hid hbl; clear hbl
  go_wp2_with fail
  refine (rbFill_any _ s t x y _ HC.out hs).mono ?_
  rintro e w2 ⟨rfl, hf, hch⟩
  have hbl : Below w.heap.size w w2 := HB.out.trans (hch.below (Below.refl _ _) (by omega) (by have := HB.out.size; omega))
  have q2 := cellOf (o := 1) hf rfl
  clear hf hch q0 q1
  have HB2 := Lib.hid hbl; clear hbl
  go_wp2_with fail
  go_ret
  exact ⟨rfl, HB2.out⟩

/-- By halves: the first time from which on there are so many. -/
theorem has_when {s : BS} (hs : s.Ok) {k x y t : Int} (h0 : 0 ≤ k) (h1 : k ≤ s.b) (hm : may x y = true) (hw : s.when k x y ≠ -1) (ht : s.t ≤ t) (ht1 : t ≤ 9007199254740991) : hasB s k x y t = decide (s.when k x y ≤ t) := by
  have e : s.filled t x y = s.fill t x y := BS.filled_yes (BS.fillE_yes (isNum_yes (by have := hs.t0; omega) ht1) hm ht)
  unfold hasB
  rw [e]
  rcases when_spec hs h0 h1 hm with ⟨g, _⟩ | ⟨_, _, g⟩
  · exact absurd g hw
  · exact decide_eq_decide.2 (g t ht ht1)
theorem has_end {s : BS} (hs : s.Ok) {k x y : Int} (h0 : 0 ≤ k) (h1 : k ≤ s.b) (hm : may x y = true) : hasB s k x y 9007199254740991 = decide (s.when k x y ≠ -1) := by
  have e : s.filled 9007199254740991 x y = s.fill 9007199254740991 x y := BS.filled_yes (BS.fillE_yes rfl hm hs.t1)
  unfold hasB
  rw [e]
  have := hs.t0
  rcases when_spec hs h0 h1 hm with ⟨g, _, g2⟩ | ⟨a1, a2, g⟩
  · have := g2 9007199254740991 hs.t1 (Int.le_refl _)
    exact decide_eq_decide.2 (by omega)
  · have := g 9007199254740991 hs.t1 (Int.le_refl _)
    exact decide_eq_decide.2 (by omega)

set_option maxRecDepth 100000 in
set_option maxHeartbeats 1600000 in
theorem rbWhen_any (a : Nat) (s : BS) (k x y : Int) (w : World) (h : RBk a s w) (hs : s.Ok) :
    Calls Try.prog 84 #[.pointer (some ⟨a, 0, none⟩), .int .i64 k, .agg #[.int .i64 x, .int .i64 y]] w fun e w' => e = .returned (.int .i64 (s.when k x y)) ∧ Below w.heap.size w w' := by
  by_cases h1 : k < 0
  · rw [BS.when_neg h1]
    have H := Lib.hid h; clear h
    have hR := new_at w (.cells #[.int .i64 x, .int .i64 y] 79 (0, 0))
    have hW0 : RW a s w.heap.size x y w.heap.size w (w.alloc (.cells #[.int .i64 x, .int .i64 y] 79 (0, 0))) := ⟨old_at _ H.out, hR, ⟨(Below.refl _ _).alloc (Nat.le_refl _) _, by simp⟩⟩
    clear hR
    obtain ⟨c0, c1, c3, r0, r1⟩ := hW0.hold
    have H0 := Lib.hid hW0; clear hW0
    go_enter Try.func84, Try.ntmps84
    go_wp2_with fail
    go_ret
    exact ⟨rfl, H0.out.gr.1⟩
  · by_cases h2 : s.b < k
    · rw [BS.when_big h2]
      have H := Lib.hid h; clear h
      have hR := new_at w (.cells #[.int .i64 x, .int .i64 y] 79 (0, 0))
      have hW0 : RW a s w.heap.size x y w.heap.size w (w.alloc (.cells #[.int .i64 x, .int .i64 y] 79 (0, 0))) := ⟨old_at _ H.out, hR, ⟨(Below.refl _ _).alloc (Nat.le_refl _) _, by simp⟩⟩
      clear hR
      obtain ⟨c0, c1, c3, r0, r1⟩ := hW0.hold
      have H0 := Lib.hid hW0; clear hW0
      go_enter Try.func84, Try.ntmps84
      go_wp2_with fail
      go_ret
      exact ⟨rfl, H0.out.gr.1⟩
    · rcases h3 : may x y with _ | _
      · rw [BS.when_rate h3]
        have H := Lib.hid h; clear h
        have hR := new_at w (.cells #[.int .i64 x, .int .i64 y] 79 (0, 0))
        have hW0 : RW a s w.heap.size x y w.heap.size w (w.alloc (.cells #[.int .i64 x, .int .i64 y] 79 (0, 0))) := ⟨old_at _ H.out, hR, ⟨(Below.refl _ _).alloc (Nat.le_refl _) _, by simp⟩⟩
        clear hR
        obtain ⟨c0, c1, c3, r0, r1⟩ := hW0.hold
        have H0 := Lib.hid hW0; clear hW0
        go_enter Try.func84, Try.ntmps84
        go_wp2_with
          (go_at_call 124; refine (rmay_any _ _ _).mono ?_; rintro e wB ⟨rfl, hB⟩; have hW1 := H0.out.step hB; obtain ⟨d0, d1, d3, k0, k1⟩ := hW1.hold; have H1 := Lib.hid hW1; clear hW1 hB)
        go_ret
        exact ⟨rfl, H1.out.gr.1⟩
      · have he := has_end hs (k := k) (by omega) (by omega) h3
        by_cases h4 : s.when k x y = -1
        · rw [h4] at he ⊢
          rw [decide_eq_false (by simp)] at he
          have H := Lib.hid h; clear h
          have hR := new_at w (.cells #[.int .i64 x, .int .i64 y] 79 (0, 0))
          have hW0 : RW a s w.heap.size x y w.heap.size w (w.alloc (.cells #[.int .i64 x, .int .i64 y] 79 (0, 0))) := ⟨old_at _ H.out, hR, ⟨(Below.refl _ _).alloc (Nat.le_refl _) _, by simp⟩⟩
          clear hR
          obtain ⟨c0, c1, c3, r0, r1⟩ := hW0.hold
          have H0 := Lib.hid hW0; clear hW0
          go_enter Try.func84, Try.ntmps84
          go_wp2_with
            (first
              |
                (go_at_call 124; refine (rmay_any _ _ _).mono ?_; rintro e wB ⟨rfl, hB⟩; have hW1 := H0.out.step hB; obtain ⟨d0, d1, d3, k0, k1⟩ := hW1.hold; have H1 := Lib.hid hW1; clear hW1 hB)
              |
                (go_at_call 129; refine (rbHas_any a s _ _ _ _ _ H1.out.bk hs).mono ?_; rintro e wC ⟨rfl, hC⟩; have hW2 := H1.out.step hC; obtain ⟨e0, e1, e3, l0, l1⟩ := hW2.hold; have H2 := Lib.hid hW2; clear hW2 hC)
              )
          go_ret
          exact ⟨rfl, H2.out.gr.1⟩
        · rw [decide_eq_true h4] at he
          by_cases h5 : k ≤ s.n
          · rw [BS.when_now (by omega) (by omega) h3 h5]
            have H := Lib.hid h; clear h
            have hR := new_at w (.cells #[.int .i64 x, .int .i64 y] 79 (0, 0))
            have hW0 : RW a s w.heap.size x y w.heap.size w (w.alloc (.cells #[.int .i64 x, .int .i64 y] 79 (0, 0))) := ⟨old_at _ H.out, hR, ⟨(Below.refl _ _).alloc (Nat.le_refl _) _, by simp⟩⟩
            clear hR
            obtain ⟨c0, c1, c3, r0, r1⟩ := hW0.hold
            have H0 := Lib.hid hW0; clear hW0
            go_enter Try.func84, Try.ntmps84
            go_wp2_with
              (first
                |
                  (go_at_call 124; refine (rmay_any _ _ _).mono ?_; rintro e wB ⟨rfl, hB⟩; have hW1 := H0.out.step hB; obtain ⟨d0, d1, d3, k0, k1⟩ := hW1.hold; have H1 := Lib.hid hW1; clear hW1 hB)
                |
                  (go_at_call 129; refine (rbHas_any a s _ _ _ _ _ H1.out.bk hs).mono ?_; rintro e wC ⟨rfl, hC⟩; have hW2 := H1.out.step hC; obtain ⟨e0, e1, e3, l0, l1⟩ := hW2.hold; have H2 := Lib.hid hW2; clear hW2 hC)
                )
            go_ret
            exact ⟨rfl, H2.out.gr.1⟩
          · have hsp : s.t ≤ s.when k x y ∧ s.when k x y ≤ 9007199254740991 := by
              rcases when_spec hs (k := k) (by omega) (by omega) h3 with ⟨g, _⟩ | ⟨g1, g2, _⟩
              · exact absurd g h4
              · exact ⟨g1, g2⟩
            have HH := Lib.hid (fun t ht ht1 => has_when hs (k := k) (t := t) (by omega) (by omega) h3 h4 ht ht1)
            obtain ⟨v, hv⟩ : ∃ v, s.when k x y = v := ⟨_, rfl⟩
            rw [hv] at hsp HH ⊢
            clear hv h4
            obtain ⟨v0, v1⟩ := hsp
            have t0 := hs.t0
            have H := Lib.hid h; clear h
            have hR := new_at w (.cells #[.int .i64 x, .int .i64 y] 79 (0, 0))
            have hW0 : RW a s w.heap.size x y w.heap.size w (w.alloc (.cells #[.int .i64 x, .int .i64 y] 79 (0, 0))) := ⟨old_at _ H.out, hR, ⟨(Below.refl _ _).alloc (Nat.le_refl _) _, by simp⟩⟩
            clear hR
            obtain ⟨c0, c1, c3, r0, r1⟩ := hW0.hold
            have H0 := Lib.hid hW0; clear hW0
            go_enter Try.func84, Try.ntmps84
            go_wp2_with
              (first
                |
                  (go_at_call 124; refine (rmay_any _ _ _).mono ?_; rintro e wB ⟨rfl, hB⟩; have hW1 := H0.out.step hB; obtain ⟨d0, d1, d3, k0, k1⟩ := hW1.hold; have H1 := Lib.hid hW1; clear hW1 hB)
                |
                  (go_at_call 129; refine (rbHas_any a s _ _ _ _ _ H1.out.bk hs).mono ?_; rintro e wC ⟨rfl, hC⟩; have hW2 := H1.out.step hC; obtain ⟨e0, e1, e3, l0, l1⟩ := hW2.hold; have H2 := Lib.hid hW2; clear hW2 hC)
                )
            go_loopw [7, 8] (fun l h wr => ∃ lo hi : Int, l = .int .i64 lo ∧ h = .int .i64 hi ∧ s.t ≤ lo ∧ lo ≤ v ∧ v ≤ hi ∧ hi ≤ 9007199254740991 ∧ RW a s w.heap.size x y w.heap.size w wr) (fun l h _ => (intOf h - intOf l).toNat)
            case atStart => exact ⟨_, _, rfl, rfl, Int.le_refl _, v0, v1, Int.le_refl _, H2.out⟩
            case round =>
              obtain ⟨lo, hi, rfl, rfl, b0, b1, b2, b3, hrw⟩ := hrel
              have H1 := Lib.hid hrw; clear hrw
              obtain ⟨d0, d1, d3, k0, k1⟩ := H1.out.hold
              by_cases hlt : lo < hi
              · obtain ⟨m, hm⟩ : ∃ m, lo + (hi - lo) / 2 = m := ⟨_, rfl⟩
                have m0 : lo ≤ m := by omega
                have m1 : m < hi := by omega
                by_cases g : v ≤ m
                · have hh : hasB s k x y m = true := by rw [HH.out m (by omega) (by omega)]; exact decide_eq_true g
                  go_wp2_with
                    (go_at_call 129; refine (rbHas_any a s _ _ _ _ _ H1.out.bk hs).mono ?_; rintro e wC ⟨rfl, hC⟩; have hW2 := H1.out.step hC; obtain ⟨e0, e1, e3, l0, l1⟩ := hW2.hold; have H2 := Lib.hid hW2; clear hW2 hC)
                  go_roundw
                  case rel => exact ⟨lo, m, rfl, rfl, b0, b1, g, by omega, H2.out⟩
                  case measure => simp [intOf]; omega
                · have hh : hasB s k x y m = false := by rw [HH.out m (by omega) (by omega)]; exact decide_eq_false g
                  go_wp2_with
                    (go_at_call 129; refine (rbHas_any a s _ _ _ _ _ H1.out.bk hs).mono ?_; rintro e wC ⟨rfl, hC⟩; have hW2 := H1.out.step hC; obtain ⟨e0, e1, e3, l0, l1⟩ := hW2.hold; have H2 := Lib.hid hW2; clear hW2 hC)
                  go_roundw
                  case rel => exact ⟨m + 1, hi, rfl, rfl, by omega, by omega, b2, b3, H2.out⟩
                  case measure => simp [intOf]; omega
              · have e : lo = v := by omega
                subst e
                go_wp2_with fail
                go_ret
                exact ⟨rfl, H1.out.gr.1⟩

end Go.Proofs.Ytcholjdbmmgakaa
