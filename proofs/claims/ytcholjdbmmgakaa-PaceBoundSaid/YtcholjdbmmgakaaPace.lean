/- The methods of package pace, in memory: none, isTime, isSize, come, Copy, send. -/
import Derived.Test.YtcholjdbmmgakaaBuckRate
import Derived.Sort.AtCall
namespace Go.Proofs.Ytcholjdbmmgakaa
open Go.RowKit Sat

/-- Block p is a pacer over bucket b. -/
def Pcb (p b : Nat) (x y : Int) (w : World) : Prop := w.heap[p]? = some (.cells #[.pointer (some ⟨b, 0, none⟩), .int .i64 x, .int .i64 y] 122 (0, 0))
structure Pq (p b : Nat) (s : BS) (x y : Int) (w : World) : Prop where
  pc : Pcb p b x y w
  bk : Bk b s w
  ok : s.Ok
  may : may x y = true
section
variable {p b : Nat} {s : BS} {x y : Int} {w w' : World}
theorem Pq.ne (h : Pq p b s x y w) : p ≠ b := fun e => by
  have h1 : w.heap[p]? = _ := h.pc
  have h2 : w.heap[b]? = _ := h.bk
  rw [e, h2] at h1
  injection h1 with h1; injection h1 with _ h3; exact absurd h3 (by decide)
theorem Pq.step (h : Pq p b s x y w) (g : Below w.heap.size w w') : Pq p b s x y w' := ⟨at_old g (lt_of_block h.pc) h.pc, h.bk.below g, h.ok, h.may⟩
theorem Pq.drew (h : Pq p b s x y w) : Pq p b s x y w.drew := ⟨h.pc, h.bk, h.ok, h.may⟩
theorem Pq.hold (h : Pq p b s x y w) : w.cell? ⟨p, 0, none⟩ = some (.pointer (some ⟨b, 0, none⟩)) ∧ w.cell? ⟨p, 1, none⟩ = some (.int .i64 x) ∧ w.cell? ⟨p, 2, none⟩ = some (.int .i64 y) := ⟨cellOf h.pc rfl, cellOf h.pc rfl, cellOf h.pc rfl⟩
theorem Pq.to {s' : BS} (h : Pq p b s x y w) (k : Bk b s' w') (c : Ch b w w') (o : s'.Ok) : Pq p b s' x y w' := ⟨c.at h.ne h.pc, k, o, h.may⟩
theorem Ch.of_drew {a : Nat} {w w' : World} (h : Ch a w.drew w') : Ch a w w' := ⟨h.os, h.tape, h.output, h.size, h.block⟩
theorem Below.of_drew {w w' : World} (h : Below w.drew.heap.size w.drew w') : Below w.heap.size w w' := ⟨h.os, h.tape, h.output, h.size, h.block⟩
theorem Ch.below_same {a : Nat} {w w' : World} (h : Ch a w w') (e : w'.heap[a]? = w.heap[a]?) : Below w.heap.size w w' := ⟨h.os, h.tape, h.output, h.size, fun k hk => by
  by_cases g : k = a
  · rw [g, e]
  · exact h.block k hk g⟩
end
def isSz1 (z : Int) : Bool := decide (1 ≤ z ∧ z ≤ 65535)
theorem isSz1_true {z : Int} (h : isSz1 z = true) : 1 ≤ z ∧ z ≤ 65535 := of_decide_eq_true h
theorem isSz1_yes {z : Int} (h0 : 1 ≤ z) (h1 : z ≤ 65535) : isSz1 z = true := decide_eq_true ⟨h0, h1⟩
def Sat.BS.sendE (s : BS) (x y t z : Int) : Int := if isNum t = true ∧ isSz1 z = true then (if t < s.t then 210 else if (s.fill t x y).n < z then 213 else 0) else 2
def Sat.BS.sent (s : BS) (x y t z : Int) : BS := if s.sendE x y t z = 0 then (s.fill t x y).taken z else s

theorem pTime_any (n : Int) (w : World) : Calls Try.prog 131 #[.int .i64 n] w fun e w' => e = .returned (.bool (isNum n)) ∧ w = w' := by
  unfold isNum
  by_cases h0 : 0 ≤ n
  · by_cases h1 : n ≤ 9007199254740991
    · rw [decide_eq_true (by omega)]
      go_enter Try.func131, Try.ntmps131
      go_wp2
      go_ret
      exact ⟨rfl, rfl⟩
    · rw [decide_eq_false (by omega)]
      go_enter Try.func131, Try.ntmps131
      go_wp2
      go_ret
      exact ⟨rfl, rfl⟩
  · rw [decide_eq_false (by omega)]
    go_enter Try.func131, Try.ntmps131
    go_wp2
    go_ret
    exact ⟨rfl, rfl⟩
theorem pSize_any (n : Int) (w : World) : Calls Try.prog 141 #[.int .i64 n] w fun e w' => e = .returned (.bool (isSz1 n)) ∧ w = w' := by
  unfold isSz1
  by_cases h0 : 1 ≤ n
  · by_cases h1 : n ≤ 65535
    · rw [decide_eq_true (by omega)]
      go_enter Try.func141, Try.ntmps141
      go_wp2
      go_ret
      exact ⟨rfl, rfl⟩
    · rw [decide_eq_false (by omega)]
      go_enter Try.func141, Try.ntmps141
      go_wp2
      go_ret
      exact ⟨rfl, rfl⟩
  · rw [decide_eq_false (by omega)]
    go_enter Try.func141, Try.ntmps141
    go_wp2
    go_ret
    exact ⟨rfl, rfl⟩
theorem rTime14_any (n : Int) (w : World) : Calls Try.prog 133 #[.int .i64 n] w fun e w' => e = .returned (.bool (isNum n)) ∧ w = w' := by
  unfold isNum
  by_cases h0 : 0 ≤ n
  · by_cases h1 : n ≤ 9007199254740991
    · rw [decide_eq_true (by omega)]
      go_enter Try.func133, Try.ntmps133
      go_wp2
      go_ret
      exact ⟨rfl, rfl⟩
    · rw [decide_eq_false (by omega)]
      go_enter Try.func133, Try.ntmps133
      go_wp2
      go_ret
      exact ⟨rfl, rfl⟩
  · rw [decide_eq_false (by omega)]
    go_enter Try.func133, Try.ntmps133
    go_wp2
    go_ret
    exact ⟨rfl, rfl⟩
theorem rSize14_any (n : Int) (w : World) : Calls Try.prog 137 #[.int .i64 n] w fun e w' => e = .returned (.bool (isSz1 n)) ∧ w = w' := by
  unfold isSz1
  by_cases h0 : 1 ≤ n
  · by_cases h1 : n ≤ 65535
    · rw [decide_eq_true (by omega)]
      go_enter Try.func137, Try.ntmps137
      go_wp2
      go_ret
      exact ⟨rfl, rfl⟩
    · rw [decide_eq_false (by omega)]
      go_enter Try.func137, Try.ntmps137
      go_wp2
      go_ret
      exact ⟨rfl, rfl⟩
  · rw [decide_eq_false (by omega)]
    go_enter Try.func137, Try.ntmps137
    go_wp2
    go_ret
    exact ⟨rfl, rfl⟩
set_option maxHeartbeats 400000 in
theorem pNone_any (p b : Nat) (s : BS) (x y : Int) (w : World) (h : Pq p b s x y w) : Calls Try.prog 130 #[.pointer (some ⟨p, 0, none⟩)] w fun e w' => e = .returned (.bool false) ∧ w = w' := by
  obtain ⟨c0, c1, c2⟩ := h.hold
  clear h
  go_enter Try.func130, Try.ntmps130
  go_wp2
  go_ret
  exact ⟨rfl, rfl⟩
set_option maxHeartbeats 1000000 in
theorem pCome_any (p b : Nat) (s : BS) (x y t : Int) (w : World) (h : Pq p b s x y w) : Calls Try.prog 132 #[.pointer (some ⟨p, 0, none⟩), .int .i64 t] w fun e w' => e = .returned (.int .i64 (s.fillE t x y)) ∧ Pq p b (s.filled t x y) x y w' ∧ Ch b w w' := by
  obtain ⟨c0, c1, c2⟩ := h.hold
  have H := Lib.hid h; clear h
  go_enter Try.func132, Try.ntmps132
  go_wp2_with fail
  go_region_held3 (fun w' => w'.cell? ⟨p, 0, none⟩ = some (.pointer (some ⟨b, 0, none⟩)) ∧ w'.cell? ⟨p, 1, none⟩ = some (.int .i64 x) ∧ w'.cell? ⟨p, 2, none⟩ = some (.int .i64 y)) (first | exact ⟨by assumption, by assumption, by assumption⟩ | go_simp) (first | (go_at_call 76; refine (bkFill_any b s t x y w.drew H.out.bk H.out.ok).mono ?_; rintro e wA ⟨rfl, hA, cA⟩; have hP := H.out.drew.to hA cA (BS.filled_ok H.out.ok t x y); obtain ⟨d0, d1, d2⟩ := hP.hold))
  go_wp2_with fail
  go_ret
  exact ⟨rfl, hP, cA.of_drew⟩
set_option maxHeartbeats 1000000 in
theorem pCopy_any (p b : Nat) (s : BS) (x y : Int) (w : World) (h : Pq p b s x y w) : Calls Try.prog 96 #[.pointer (some ⟨p, 0, none⟩)] w fun e w' => ∃ q, e = .returned (.pointer (some ⟨q, 0, none⟩)) ∧ Pq q w.heap.size s x y w' ∧ Below w.heap.size w w' ∧ w.heap.size < q := by
  obtain ⟨c0, c1, c2⟩ := h.hold
  have H := Lib.hid h; clear h
  go_enter Try.func96, Try.ntmps96
  go_wp2_with (first | (go_at_call 130; refine (pNone_any p b s x y _ (by exact H.out)).mono ?_; rintro e w' ⟨rfl, rfl⟩))
  go_region_held3 (fun w' => w'.cell? ⟨p, 0, none⟩ = some (.pointer (some ⟨b, 0, none⟩)) ∧ w'.cell? ⟨p, 1, none⟩ = some (.int .i64 x) ∧ w'.cell? ⟨p, 2, none⟩ = some (.int .i64 y)) (first | exact ⟨by assumption, by assumption, by assumption⟩ | go_simp) (first | (go_at_call 86; refine (bkCopy_any b s w.drew H.out.bk H.out.ok).mono ?_; rintro e wA ⟨rfl, hA, cA⟩; have hP := H.out.drew.step cA; obtain ⟨d0, d1, d2⟩ := hP.hold; have HA := Lib.hid hA; have CA := Lib.hid cA; have pl := lt_of_block hP.pc; clear hA cA))
  go_wp2_with fail
  go_ret
  have g : Below w.heap.size w (wA.alloc (.cells #[.pointer (some ⟨w.heap.size, 0, none⟩), .int .i64 x, .int .i64 y] 122 (0, 0))) := (Below.of_drew CA.out).alloc CA.out.size _
  exact ⟨wA.heap.size, rfl, ⟨new_at _ _, HA.out.below ((Below.refl _ _).alloc (Nat.le_refl _) _), H.out.ok, H.out.may⟩, g, lt_of_block HA.out⟩

/-! What one asks of it. -/
theorem pCome_e (p b : Nat) (s s' : BS) (x y t E : Int) (w : World) (he : s.fillE t x y = E) (hs : s.filled t x y = s') (h : Pq p b s x y w) : Calls Try.prog 132 #[.pointer (some ⟨p, 0, none⟩), .int .i64 t] w fun e w' => e = .returned (.int .i64 E) ∧ Pq p b s' x y w' ∧ Ch b w w' :=
  (pCome_any p b s x y t w h).mono fun _ _ ⟨h1, h2, h3⟩ => ⟨he ▸ h1, hs ▸ h2, h3⟩
set_option maxHeartbeats 1000000 in
theorem psend_any (p b : Nat) (s : BS) (x y t z : Int) (w : World) (h : Pq p b s x y w) : Calls Try.prog 136 #[.pointer (some ⟨p, 0, none⟩), .int .i64 t, .int .i64 z] w fun e w' => e = .returned (.int .i64 (s.sendE x y t z)) ∧ Ch b w w' ∧ (s.sendE x y t z = 0 → Pq p b (s.sent x y t z) x y w') := by
  have H := Lib.hid h
  have hok := h.ok; have hmay := h.may
  clear h
  rcases ht : isNum t with _ | _
  · have e : s.sendE x y t z = 2 := if_neg (by rw [ht]; simp)
    rw [e]
    go_enter Try.func136, Try.ntmps136
    go_wp2_with
      (first | (go_at_call 131; refine (pTime_any _ _).mono ?_; rintro e w' ⟨rfl, rfl⟩) | (go_at_call 141; refine (pSize_any _ _).mono ?_; rintro e w' ⟨rfl, rfl⟩))
    go_ret
    exact ⟨rfl, Ch.refl _ _, fun g => absurd g (by decide)⟩
  · rcases hz : isSz1 z with _ | _
    · have e : s.sendE x y t z = 2 := if_neg (by rw [hz]; simp)
      rw [e]
      go_enter Try.func136, Try.ntmps136
      go_wp2_with
        (first | (go_at_call 131; refine (pTime_any _ _).mono ?_; rintro e w' ⟨rfl, rfl⟩) | (go_at_call 141; refine (pSize_any _ _).mono ?_; rintro e w' ⟨rfl, rfl⟩))
      go_ret
      exact ⟨rfl, Ch.refl _ _, fun g => absurd g (by decide)⟩
    · by_cases hb : t < s.t
      · have e : s.sendE x y t z = 210 := by unfold BS.sendE; rw [if_pos ⟨ht, hz⟩, if_pos hb]
        have f := BS.fillE_back ht hmay hb
        rw [e]
        clear e
        go_enter Try.func136, Try.ntmps136
        go_wp2_with
          (first | (go_at_call 131; refine (pTime_any _ _).mono ?_; rintro e w' ⟨rfl, rfl⟩) | (go_at_call 141; refine (pSize_any _ _).mono ?_; rintro e w' ⟨rfl, rfl⟩))
        refine (pCome_e p b s _ x y t 210 _ f rfl H.out).mono ?_
        rintro e wA ⟨rfl, hA, cA⟩
        go_wp2_with fail
        go_ret
        exact ⟨rfl, cA, fun g => absurd g (by decide)⟩
      · have f := BS.fillE_yes (s := s) ht hmay (by omega)
        have fs := BS.filled_yes f
        obtain ⟨S, hS⟩ : ∃ S, s.fill t x y = S := ⟨_, rfl⟩
        rw [hS] at fs
        by_cases hn : S.n < z
        · have e : s.sendE x y t z = 213 := by unfold BS.sendE; rw [if_pos ⟨ht, hz⟩, if_neg hb, hS, if_pos hn]
          rw [e]
          clear e
          have k := BS.takeE_big (s := S) (k := z) hn (by have := isSz1_true hz; omega)
          go_enter Try.func136, Try.ntmps136
          go_wp2_with
            (first | (go_at_call 131; refine (pTime_any _ _).mono ?_; rintro e w' ⟨rfl, rfl⟩) | (go_at_call 141; refine (pSize_any _ _).mono ?_; rintro e w' ⟨rfl, rfl⟩))
          refine (pCome_e p b s S x y t 0 _ f fs H.out).mono ?_
          rintro e wA ⟨rfl, hA, cA⟩
          obtain ⟨d0, _, _⟩ := hA.hold
          go_wp2_with (first | (go_at_call 75; refine (bkTake_any b S z _ hA.bk hA.ok).mono ?_; rintro e wB ⟨rfl, hB, cB⟩))
          go_ret
          exact ⟨rfl, cA.trans cB, fun g => absurd g (by decide)⟩
        · have e : s.sendE x y t z = 0 := by unfold BS.sendE; rw [if_pos ⟨ht, hz⟩, if_neg hb, hS, if_neg hn]
          have e2 : s.sent x y t z = S.taken z := by unfold BS.sent; rw [if_pos e, hS]
          rw [e, e2]
          clear e e2
          have k := BS.takeE_yes (s := S) (k := z) (by have := isSz1_true hz; omega) (by omega)
          go_enter Try.func136, Try.ntmps136
          go_wp2_with
            (first | (go_at_call 131; refine (pTime_any _ _).mono ?_; rintro e w' ⟨rfl, rfl⟩) | (go_at_call 141; refine (pSize_any _ _).mono ?_; rintro e w' ⟨rfl, rfl⟩))
          refine (pCome_e p b s S x y t 0 _ f fs H.out).mono ?_
          rintro e wA ⟨rfl, hA, cA⟩
          obtain ⟨d0, _, _⟩ := hA.hold
          go_wp2_with (first | (go_at_call 75; refine (bkTake_any b S z _ hA.bk hA.ok).mono ?_; rintro e wB ⟨rfl, hB, cB⟩))
          go_ret
          exact ⟨rfl, cA.trans cB, fun _ => hA.to hB cB (BS.taken_ok hA.ok z)⟩
/-- A copy is asked, and does not go on in its place. -/
theorem pAsked_no (p b : Nat) (s : BS) (x y t z : Int) (k : Bool) (w : World) (h : Pq p b s x y w) (hk : k = false ∨ s.sendE x y t z ≠ 0) : Calls Try.prog 135 #[.pointer (some ⟨p, 0, none⟩), .func (Fn.func 136) #[] #[], .int .i64 t, .int .i64 z, .bool k] w fun e w' => e = .returned (.int .i64 (s.sendE x y t z)) ∧ Below w.heap.size w w' := by
  have H := Lib.hid h
  clear h
  obtain ⟨E, hE⟩ : ∃ E, s.sendE x y t z = E := ⟨_, rfl⟩
  rw [hE] at hk ⊢
  go_enter Try.func135, Try.ntmps135
  go_wp2_with (first | (go_at_call 130; refine (pNone_any p b s x y _ (by exact H.out)).mono ?_; rintro e w' ⟨rfl, rfl⟩))
  refine (pCopy_any p b s x y _ H.out).mono ?_
  rintro e w1 ⟨q, rfl, h1, b1, q1⟩
  go_wp2_with fail
  refine (psend_any q w.heap.size s x y t z _ h1).mono ?_
  rintro e w2 ⟨rfl, c2, _⟩
  have b2 : Below w.heap.size w w2 := c2.below b1 (Nat.le_refl _) b1.size
  clear c2 b1 h1
  rw [hE]
  rcases hk with rfl | hk
  · by_cases g : E = 0
    · subst g
      go_wp2_with fail
      go_ret
      exact ⟨rfl, b2⟩
    · have g' : (E == 0) = false := beq_eq_false_iff_ne.2 g
      go_wp2_with fail
      go_ret
      exact ⟨rfl, b2⟩
  · have g' : (E == 0) = false := beq_eq_false_iff_ne.2 hk
    go_wp2_with fail
    go_ret
    exact ⟨rfl, b2⟩
/-- A copy is asked, and goes on in its place. -/
theorem pAsked_go (p b : Nat) (s : BS) (x y t z : Int) (w : World) (h : Pq p b s x y w) (hE : s.sendE x y t z = 0) : Calls Try.prog 135 #[.pointer (some ⟨p, 0, none⟩), .func (Fn.func 136) #[] #[], .int .i64 t, .int .i64 z, .bool true] w fun e w' => e = .returned (.int .i64 0) ∧ Pq p w.heap.size (s.sent x y t z) x y w' ∧ Ch p w w' := by
  have H := Lib.hid h
  clear h
  go_enter Try.func135, Try.ntmps135
  go_wp2_with (first | (go_at_call 130; refine (pNone_any p b s x y _ (by exact H.out)).mono ?_; rintro e w' ⟨rfl, rfl⟩))
  refine (pCopy_any p b s x y _ H.out).mono ?_
  rintro e w1 ⟨q, rfl, h1, b1, q1⟩
  go_wp2_with fail
  refine (psend_any q w.heap.size s x y t z _ h1).mono ?_
  rintro e w2 ⟨rfl, c2, g2⟩
  have b2 : Below w.heap.size w w2 := c2.below b1 (Nat.le_refl _) b1.size
  have h2 := g2 hE
  obtain ⟨d0, d1, d2⟩ := h2.hold
  have hp2 := H.out.step b2
  have f0 : w2.frozen? ⟨p, 0, none⟩ = false := freeOf hp2.pc
  have f1 : w2.frozen? ⟨p, 1, none⟩ = false := freeOf hp2.pc
  have f2 : w2.frozen? ⟨p, 2, none⟩ = false := freeOf hp2.pc
  have pl := lt_of_block hp2.pc
  have plw := lt_of_block H.out.pc
  obtain ⟨e0, e1, e2⟩ := hp2.hold
  have H2 := Lib.hid h2; have HP := Lib.hid hp2; have HB := Lib.hid b2
  rw [hE]
  clear g2 c2 b1 h1 h2 hp2 b2 hE
  go_wp2_with fail
  go_ret
  refine ⟨rfl, ⟨?_, ?_, H2.out.ok, H2.out.may⟩, ?_⟩
  · have hau : w2.heap[p]? = some (.cells #[.pointer (some ⟨b, 0, none⟩), .int .i64 x, .int .i64 y] 122 (0, 0)) := HP.out.pc
    show (World.heap _)[p]? = _
    apply at_eq
    · (repeat (first | with_reducible exact hau | with_reducible apply set_at | with_reducible apply drewN_at | with_reducible apply drew_at))
    · rfl
  · refine ((Ch.refl p w2).setc.setc.setc).at (by omega) H2.out.bk
  · exact (Ch.of_below HB.out).setc.setc.setc
theorem pSend_any (p b : Nat) (s : BS) (x y t z : Int) (w : World) (h : Pq p b s x y w) : Calls Try.prog 94 #[.pointer (some ⟨p, 0, none⟩), .int .i64 t, .int .i64 z] w fun e w' => e = .returned (.int .i64 (s.sendE x y t z)) ∧ Ch p w w' ∧ ∃ b', Pq p b' (s.sent x y t z) x y w' ∧ (b' = b ∨ w.heap.size ≤ b') := by
  have H := Lib.hid h
  clear h
  by_cases hE : s.sendE x y t z = 0
  · rw [hE]
    go_enter Try.func94, Try.ntmps94
    go_wp2_with fail
    refine (pAsked_go p b s x y t z _ H.out hE).mono ?_
    rintro e w1 ⟨rfl, h1, c1⟩
    go_wp2_with fail
    go_ret
    exact ⟨rfl, c1, _, h1, Or.inr (Nat.le_refl _)⟩
  · have e : s.sent x y t z = s := if_neg hE
    rw [e]
    go_enter Try.func94, Try.ntmps94
    go_wp2_with fail
    refine (pAsked_no p b s x y t z true _ H.out (Or.inr hE)).mono ?_
    rintro e w1 ⟨rfl, b1⟩
    go_wp2_with fail
    go_ret
    exact ⟨rfl, Ch.of_below b1, _, H.out.step b1, Or.inl rfl⟩
def Sat.BS.canB (s : BS) (x y t z : Int) : Bool := s.sendE x y t z == 0
def Sat.BS.whenP (s : BS) (x y z : Int) : Int := if isSz1 z = true then s.when z x y else -1
def Sat.BS.leftP (s : BS) (x y t : Int) : Int := if s.fillE t x y = 0 then (s.fill t x y).n else 0
theorem pCan_any (p b : Nat) (s : BS) (x y t z : Int) (w : World) (h : Pq p b s x y w) : Calls Try.prog 102 #[.pointer (some ⟨p, 0, none⟩), .int .i64 t, .int .i64 z] w fun e w' => e = .returned (.bool (s.canB x y t z)) ∧ Below w.heap.size w w' := by
  have H := Lib.hid h
  clear h
  unfold BS.canB
  go_enter Try.func102, Try.ntmps102
  go_wp2_with fail
  refine (pAsked_no p b s x y t z false _ H.out (Or.inl rfl)).mono ?_
  rintro e w1 ⟨rfl, b1⟩
  have HB := Lib.hid b1; clear b1
  go_wp2_with fail
  go_ret
  exact ⟨rfl, HB.out⟩
set_option maxHeartbeats 1000000 in
theorem pWhen_any (p b : Nat) (s : BS) (x y z : Int) (w : World) (h : Pq p b s x y w) : Calls Try.prog 101 #[.pointer (some ⟨p, 0, none⟩), .int .i64 z] w fun e w' => e = .returned (.int .i64 (s.whenP x y z)) ∧ Below w.heap.size w w' := by
  have H := Lib.hid h
  obtain ⟨c0, c1, c2⟩ := h.hold
  clear h
  unfold BS.whenP
  rcases hz : isSz1 z with _ | _
  · rw [if_neg (by simp)]
    go_enter Try.func101, Try.ntmps101
    go_wp2_with (first | (go_at_call 130; refine (pNone_any p b s x y _ (by exact H.out)).mono ?_; rintro e w' ⟨rfl, rfl⟩) | (go_at_call 141; refine (pSize_any _ _).mono ?_; rintro e w' ⟨rfl, rfl⟩))
    go_ret
    exact ⟨rfl, Below.refl _ _⟩
  · rw [if_pos rfl]
    go_enter Try.func101, Try.ntmps101
    go_wp2_with (first | (go_at_call 130; refine (pNone_any p b s x y _ (by exact H.out)).mono ?_; rintro e w' ⟨rfl, rfl⟩) | (go_at_call 141; refine (pSize_any _ _).mono ?_; rintro e w' ⟨rfl, rfl⟩))
    go_region_held3 (fun w' => w'.cell? ⟨p, 0, none⟩ = some (.pointer (some ⟨b, 0, none⟩)) ∧ w'.cell? ⟨p, 1, none⟩ = some (.int .i64 x) ∧ w'.cell? ⟨p, 2, none⟩ = some (.int .i64 y)) (first | exact ⟨by assumption, by assumption, by assumption⟩ | go_simp) (first | (go_at_call 83; refine (bkWhen_any b s z x y w.drew H.out.bk H.out.ok).mono ?_; rintro e wA ⟨rfl, hA, cA⟩; have hP := H.out.drew.to hA cA H.out.ok; obtain ⟨d0, d1, d2⟩ := hP.hold))
    go_wp2_with fail
    go_ret
    exact ⟨rfl, cA.of_drew.below_same (by have h1 : w.heap[b]? = _ := H.out.bk; have h2 : wA.heap[b]? = _ := hA; rw [h1, h2])⟩
set_option maxHeartbeats 1000000 in
theorem pLeft_any (p b : Nat) (s : BS) (x y t : Int) (w : World) (h : Pq p b s x y w) : Calls Try.prog 105 #[.pointer (some ⟨p, 0, none⟩), .int .i64 t] w fun e w' => e = .returned (.int .i64 (s.leftP x y t)) ∧ Below w.heap.size w w' := by
  have H := Lib.hid h
  clear h
  obtain ⟨E, hE⟩ : ∃ E, s.fillE t x y = E := ⟨_, rfl⟩
  by_cases g : E = 0
  · have e : s.leftP x y t = (s.filled t x y).n := by unfold BS.leftP; rw [hE, if_pos g, BS.filled_yes (hE.trans g)]
    rw [e]
    clear e
    go_enter Try.func105, Try.ntmps105
    go_wp2_with (first | (go_at_call 130; refine (pNone_any p b s x y _ (by exact H.out)).mono ?_; rintro e w' ⟨rfl, rfl⟩))
    refine (pCopy_any p b s x y _ H.out).mono ?_
    rintro e w1 ⟨q, rfl, h1, b1, q1⟩
    go_wp2_with fail
    refine (pCome_e q w.heap.size s _ x y t E _ hE rfl h1).mono ?_
    rintro e w2 ⟨rfl, h2, c2⟩
    have b2 : Below w.heap.size w w2 := c2.below b1 (Nat.le_refl _) b1.size
    have d0 := h2.hold.1
    have HB := Lib.hid b2; have H2 := Lib.hid h2
    clear c2 b1 h1 h2 b2 q1
    clear hE
    subst g
    go_wp2_with (first | (go_at_call 77; refine (bkTokens_any w.heap.size _ _ H2.out.bk H2.out.ok).mono ?_; rintro e w' ⟨rfl, rfl⟩))
    go_ret
    exact ⟨rfl, HB.out⟩
  · have e : s.leftP x y t = 0 := by unfold BS.leftP; rw [hE, if_neg g]
    rw [e]
    have g' : (E == 0) = false := beq_eq_false_iff_ne.2 g
    clear e
    go_enter Try.func105, Try.ntmps105
    go_wp2_with (first | (go_at_call 130; refine (pNone_any p b s x y _ (by exact H.out)).mono ?_; rintro e w' ⟨rfl, rfl⟩))
    refine (pCopy_any p b s x y _ H.out).mono ?_
    rintro e w1 ⟨q, rfl, h1, b1, q1⟩
    go_wp2_with fail
    refine (pCome_e q w.heap.size s _ x y t E _ hE rfl h1).mono ?_
    rintro e w2 ⟨rfl, h2, c2⟩
    have b2 : Below w.heap.size w w2 := c2.below b1 (Nat.le_refl _) b1.size
    have d0 := h2.hold.1
    have HB := Lib.hid b2; have H2 := Lib.hid h2
    clear c2 b1 h1 h2 b2 q1
    clear hE
    go_wp2_with fail
    go_ret
    exact ⟨rfl, HB.out⟩
theorem pRate_any (p b : Nat) (s : BS) (x y : Int) (w : World) (h : Pq p b s x y w) : Calls Try.prog 103 #[.pointer (some ⟨p, 0, none⟩)] w fun e w' => e = .returned (.agg #[.int .i64 x, .int .i64 y]) ∧ Below w.heap.size w w' := by
  have H := Lib.hid h
  obtain ⟨c0, c1, c2⟩ := h.hold
  have pl := lt_of_block h.pc
  have H1 := Lib.hid (h.step ((Below.refl _ _).alloc (Nat.le_refl _) (.cells #[.int .i64 0, .int .i64 0] 60 (0, 0))))
  clear h
  go_enter Try.func103, Try.ntmps103
  go_wp2_with (first | (go_at_call 130; refine (pNone_any p b s x y _ (by exact H1.out)).mono ?_; rintro e w' ⟨rfl, rfl⟩))
  refine bodyPost_ret (v := .agg #[.int .i64 x, .int .i64 y]) ?_ rfl ⟨rfl, ?_⟩
  · simp [results, Try.results103, go_sem]
  · exact (Below.refl _ _).alloc (Nat.le_refl _) _

end Go.Proofs.Ytcholjdbmmgakaa
