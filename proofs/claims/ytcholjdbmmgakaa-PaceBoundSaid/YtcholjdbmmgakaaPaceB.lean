/- pace: New, Set; the reference of layer 14. -/
import Derived.Test.YtcholjdbmmgakaaPace
import Derived.Test.YtcholjdbmmgakaaBuckSame
namespace Go.Proofs.Ytcholjdbmmgakaa
open Go.RowKit Sat

/-- Two blocks alone may have changed. -/
structure Ch2 (a b : Nat) (w w' : World) : Prop where
  os : w'.os = w.os
  tape : w'.tape = w.tape
  output : w'.output = w.output
  size : w.heap.size ≤ w'.heap.size
  block : ∀ k, k < w.heap.size → k ≠ a → k ≠ b → w'.heap[k]? = w.heap[k]?
theorem Ch.left {a b : Nat} {w w' : World} (h : Ch a w w') : Ch2 a b w w' := ⟨h.os, h.tape, h.output, h.size, fun k hk ha _ => h.block k hk ha⟩
theorem Ch.right {a b : Nat} {w w' : World} (h : Ch b w w') : Ch2 a b w w' := ⟨h.os, h.tape, h.output, h.size, fun k hk _ hb => h.block k hk hb⟩
theorem Ch2.trans {a b : Nat} {x y z : World} (h : Ch2 a b x y) (g : Ch2 a b y z) : Ch2 a b x z :=
  ⟨g.os.trans h.os, g.tape.trans h.tape, g.output.trans h.output, Nat.le_trans h.size g.size, fun k hk ha hb => (g.block k (Nat.lt_of_lt_of_le hk h.size) ha hb).trans (h.block k hk ha hb)⟩
theorem Ch2.at {a b k : Nat} {w w' : World} {o : Obj} (h : Ch2 a b w w') (ha : k ≠ a) (hb : k ≠ b) (g : w.heap[k]? = some o) : w'.heap[k]? = some o := (h.block k (lt_of_block g) ha hb).trans g
theorem Ch2.below {a b B : Nat} {w0 w w' : World} (h : Ch2 a b w w') (g : Below B w0 w) (ha : B ≤ a) (hb : B ≤ b) (hs : B ≤ w.heap.size) : Below B w0 w' :=
  g.trans ⟨h.os, h.tape, h.output, h.size, fun k hk => h.block k (by omega) (by omega) (by omega)⟩
theorem Gr.ch2 {a b B : Nat} {w0 w w' : World} (g : Gr B w0 w) (h : Ch2 a b w w') (ha : B ≤ a) (hb : B ≤ b) : Gr B w0 w' := ⟨h.below g.1 ha hb g.2, Nat.le_trans g.2 h.size⟩

def setOk (t c m : Int) : Bool := isNum t && decide (1 ≤ c ∧ c ≤ 1099511627776) && isNum m
def denP (m : Int) : Int := max 1 (min (4 * m) 9007199254740991)
def Sat.BS.setE (s : BS) (x y t c m : Int) : Int := if setOk t c m = true then s.fillE t x y else 2
def Sat.BS.setS (s : BS) (x y t c m : Int) : BS := if s.setE x y t c m = 0 then s.fill t x y else s
def Sat.BS.setX (s : BS) (x y t c m : Int) : Int := if s.setE x y t c m = 0 then 5 * c else x
def Sat.BS.setY (s : BS) (x y t c m : Int) : Int := if s.setE x y t c m = 0 then denP m else y
theorem setOk_true {t c m : Int} (h : setOk t c m = true) : isNum t = true ∧ (1 ≤ c ∧ c ≤ 1099511627776) ∧ isNum m = true := by
  unfold setOk at h
  rw [Bool.and_eq_true, Bool.and_eq_true] at h
  exact ⟨h.1.1, of_decide_eq_true h.1.2, h.2⟩
theorem may_set {c m : Int} (h : 1 ≤ c ∧ c ≤ 1099511627776) : may (5 * c) (denP m) = true := may_yes (by omega) (by omega) (by unfold denP; omega) (by unfold denP; omega)

set_option maxHeartbeats 1600000 in
theorem pSet_any (p b : Nat) (s : BS) (x y t c m : Int) (w : World) (h : Pq p b s x y w) : Calls Try.prog 92 #[.pointer (some ⟨p, 0, none⟩), .int .i64 t, .int .i64 c, .int .i64 m] w fun e w' => e = .returned (.int .i64 (s.setE x y t c m)) ∧ Pq p b (s.setS x y t c m) (s.setX x y t c m) (s.setY x y t c m) w' ∧ Ch2 p b w w' := by
  have H := Lib.hid h
  have hok := h.ok; have hmay := h.may
  clear h
  unfold BS.setS BS.setX BS.setY
  rcases ho : setOk t c m with _ | _
  · have e : s.setE x y t c m = 2 := by unfold BS.setE; rw [if_neg (by rw [ho]; simp)]
    rw [e, if_neg (by decide), if_neg (by decide), if_neg (by decide)]
    clear e
    unfold setOk at ho
    rcases ht : isNum t with _ | _
    · clear ho
      go_enter Try.func92, Try.ntmps92
      go_wp2_with
        (first | (go_at_call 130; refine (pNone_any p b s x y _ (by exact H.out)).mono ?_; rintro e w' ⟨rfl, rfl⟩) | (go_at_call 131; refine (pTime_any _ _).mono ?_; rintro e w' ⟨rfl, rfl⟩))
      go_ret
      exact ⟨rfl, H.out, (Ch.refl p w).left⟩
    · by_cases h1 : 1 ≤ c
      · by_cases h2 : c ≤ 1099511627776
        · rw [ht, decide_eq_true ⟨h1, h2⟩] at ho
          have hm : isNum m = false := by simpa using ho
          clear ho
          go_enter Try.func92, Try.ntmps92
          go_wp2_with
            (first | (go_at_call 130; refine (pNone_any p b s x y _ (by exact H.out)).mono ?_; rintro e w' ⟨rfl, rfl⟩) | (go_at_call 131; refine (pTime_any _ _).mono ?_; rintro e w' ⟨rfl, rfl⟩))
          go_ret
          exact ⟨rfl, H.out, (Ch.refl p w).left⟩
        · clear ho
          go_enter Try.func92, Try.ntmps92
          go_wp2_with
            (first | (go_at_call 130; refine (pNone_any p b s x y _ (by exact H.out)).mono ?_; rintro e w' ⟨rfl, rfl⟩) | (go_at_call 131; refine (pTime_any _ _).mono ?_; rintro e w' ⟨rfl, rfl⟩))
          go_ret
          exact ⟨rfl, H.out, (Ch.refl p w).left⟩
      · clear ho
        go_enter Try.func92, Try.ntmps92
        go_wp2_with
          (first | (go_at_call 130; refine (pNone_any p b s x y _ (by exact H.out)).mono ?_; rintro e w' ⟨rfl, rfl⟩) | (go_at_call 131; refine (pTime_any _ _).mono ?_; rintro e w' ⟨rfl, rfl⟩))
        go_ret
        exact ⟨rfl, H.out, (Ch.refl p w).left⟩
  · obtain ⟨ht, ⟨h1, h2⟩, hm⟩ := setOk_true ho
    have e : s.setE x y t c m = s.fillE t x y := by unfold BS.setE; rw [if_pos ho]
    rw [e]
    clear e ho
    obtain ⟨m0, m1⟩ := isNum_true hm
    by_cases hb : t < s.t
    · have f := BS.fillE_back ht hmay hb
      have fs := BS.filled_no (s := s) (t := t) (x := x) (y := y) (by rw [f]; decide)
      rw [f, if_neg (by decide), if_neg (by decide), if_neg (by decide)]
      go_enter Try.func92, Try.ntmps92
      go_wp2_with
        (first | (go_at_call 130; refine (pNone_any p b s x y _ (by exact H.out)).mono ?_; rintro e w' ⟨rfl, rfl⟩) | (go_at_call 131; refine (pTime_any _ _).mono ?_; rintro e w' ⟨rfl, rfl⟩))
      refine (pCome_e p b s _ x y t 210 _ f fs H.out).mono ?_
      rintro e wA ⟨rfl, hA, cA⟩
      have HA := Lib.hid hA; clear hA
      go_wp2_with fail
      go_ret
      exact ⟨rfl, HA.out, cA.right⟩
    · have f := BS.fillE_yes (s := s) ht hmay (by omega)
      have fs := BS.filled_yes f
      rw [f, if_pos rfl, if_pos rfl, if_pos rfl]
      obtain ⟨S, hS⟩ : ∃ S, s.fill t x y = S := ⟨_, rfl⟩
      rw [hS] at fs ⊢
      have hmy := Lib.hid (may_set (m := m) ⟨h1, h2⟩)
      go_enter Try.func92, Try.ntmps92
      go_wp2_with
        (first | (go_at_call 130; refine (pNone_any p b s x y _ (by exact H.out)).mono ?_; rintro e w' ⟨rfl, rfl⟩) | (go_at_call 131; refine (pTime_any _ _).mono ?_; rintro e w' ⟨rfl, rfl⟩))
      refine (pCome_e p b s S x y t 0 _ f fs H.out).mono ?_
      rintro e wA ⟨rfl, hA, cA⟩
      have f1 : wA.frozen? ⟨p, 1, none⟩ = false := freeOf hA.pc
      have f2 : wA.frozen? ⟨p, 2, none⟩ = false := freeOf hA.pc
      have pl := lt_of_block hA.pc
      obtain ⟨d0, d1, d2⟩ := hA.hold
      have HA := Lib.hid hA; clear hA
      go_wp2_with fail
      go_ret
      refine ⟨rfl, ⟨?_, ?_, HA.out.ok, hmy.out⟩, ?_⟩
      · have hau : wA.heap[p]? = some (.cells #[.pointer (some ⟨b, 0, none⟩), .int .i64 x, .int .i64 y] 122 (0, 0)) := HA.out.pc
        show (World.heap _)[p]? = _
        apply at_eq
        · (repeat (first | with_reducible exact hau | with_reducible apply set_at | with_reducible apply drewN_at | with_reducible apply drew_at))
        · rfl
      · exact ((Ch.refl p wA).setc.setc).at (Ne.symm HA.out.ne) HA.out.bk
      · exact cA.right.trans ((Ch.refl p wA).setc.setc).left
theorem pNew_yes (u t : Int) (w : World) (hb : BS.newE u t = 0) : Calls Try.prog 89 #[.int .i64 u, .int .i64 t] w fun e w' => ∃ q, e = .returned (.tuple #[.pointer (some ⟨q, 0, none⟩), .int .i64 0]) ∧ Pq q w.heap.size (BS.new u t) 0 1 w' ∧ Below w.heap.size w w' ∧ w.heap.size < q := by
  go_enter Try.func89, Try.ntmps89
  go_wp2_with fail
  refine (bkNew_yes u t _ hb).mono ?_
  rintro e wA ⟨rfl, hA, bA⟩
  have HA := Lib.hid hA; have BA := Lib.hid bA; clear hA bA
  go_wp2_with fail
  go_ret2
  exact ⟨wA.heap.size, rfl, ⟨new_at _ _, HA.out.below ((Below.refl _ _).alloc (Nat.le_refl _) _), BS.new_ok hb, by decide⟩, BA.out.alloc BA.out.size _, lt_of_block HA.out⟩
theorem pNew_no (u t : Int) (w : World) (hb : BS.newE u t ≠ 0) : Calls Try.prog 89 #[.int .i64 u, .int .i64 t] w fun e w' => e = .returned (.tuple #[.pointer none, .int .i64 2]) ∧ w = w' := by
  go_enter Try.func89, Try.ntmps89
  go_wp2_with (first | (go_at_call 74; refine (bkNew_no u t _ hb).mono ?_; rintro e w' ⟨rfl, rfl⟩))
  go_ret2
  exact ⟨rfl, rfl⟩

/-! The reference. -/
def RPcb (p b : Nat) (x y : Int) (w : World) : Prop := w.heap[p]? = some (.cells #[.pointer (some ⟨b, 0, none⟩), .int .i64 x, .int .i64 y] 141 (0, 0))
structure RPq (p b : Nat) (s : BS) (x y : Int) (w : World) : Prop where
  pc : RPcb p b x y w
  bk : RBk b s w
  ok : s.Ok
  may : may x y = true
section
variable {p b : Nat} {s : BS} {x y : Int} {w w' : World}
theorem RPq.ne (h : RPq p b s x y w) : p ≠ b := fun e => by
  have h1 : w.heap[p]? = _ := h.pc
  have h2 : w.heap[b]? = _ := h.bk
  rw [e, h2] at h1
  injection h1 with h1; injection h1 with _ h3; exact absurd h3 (by decide)
theorem RPq.step (h : RPq p b s x y w) (g : Below w.heap.size w w') : RPq p b s x y w' := ⟨at_old g (lt_of_block h.pc) h.pc, h.bk.below g, h.ok, h.may⟩
theorem RPq.drew (h : RPq p b s x y w) : RPq p b s x y w.drew := ⟨h.pc, h.bk, h.ok, h.may⟩
theorem RPq.hold (h : RPq p b s x y w) : w.cell? ⟨p, 0, none⟩ = some (.pointer (some ⟨b, 0, none⟩)) ∧ w.cell? ⟨p, 1, none⟩ = some (.int .i64 x) ∧ w.cell? ⟨p, 2, none⟩ = some (.int .i64 y) := ⟨cellOf h.pc rfl, cellOf h.pc rfl, cellOf h.pc rfl⟩
theorem RPq.holdb (h : RPq p b s x y w) : w.cell? ⟨b, 1, none⟩ = some (.int .i64 s.n) ∧ w.cell? ⟨b, 3, none⟩ = some (.int .i64 s.t) := ⟨cellOf h.bk rfl, cellOf h.bk rfl⟩
theorem RPq.to {s' : BS} (h : RPq p b s x y w) (k : RBk b s' w') (c : Ch b w w') (o : s'.Ok) : RPq p b s' x y w' := ⟨c.at h.ne h.pc, k, o, h.may⟩
end
set_option maxHeartbeats 1000000 in
theorem rCome_e (p b : Nat) (s s' : BS) (x y t E : Int) (w : World) (ht : isNum t = true) (he : s.fillE t x y = E) (hs : s.filled t x y = s') (h : RPq p b s x y w) : Calls Try.prog 134 #[.pointer (some ⟨p, 0, none⟩), .int .i64 t] w fun e w' => e = .returned (.int .i64 E) ∧ RPq p b s' x y w' ∧ Ch b w w' := by
  obtain ⟨c0, c1, c2⟩ := h.hold
  obtain ⟨_, b3⟩ := h.holdb
  have H := Lib.hid h
  have hmay := h.may
  clear h
  by_cases hb : t < s.t
  · have f := BS.fillE_back ht hmay hb
    have fs := BS.filled_no (s := s) (t := t) (x := x) (y := y) (by rw [f]; decide)
    rw [← he, f, ← hs, fs]
    clear he hs f fs
    go_enter Try.func134, Try.ntmps134
    go_wp2_with fail
    go_ret
    exact ⟨rfl, H.out, Ch.refl _ _⟩
  · go_enter Try.func134, Try.ntmps134
    go_wp2_with fail
    go_region_held3 (fun w' => w'.cell? ⟨p, 0, none⟩ = some (.pointer (some ⟨b, 0, none⟩)) ∧ w'.cell? ⟨p, 1, none⟩ = some (.int .i64 x) ∧ w'.cell? ⟨p, 2, none⟩ = some (.int .i64 y)) (first | exact ⟨by assumption, by assumption, by assumption⟩ | go_simp) (first | (go_at_call 81; refine (rbFill_any b s t x y w.drew H.out.bk H.out.ok).mono ?_; rintro e wA ⟨rfl, hA, cA⟩; have hP := H.out.drew.to hA cA (BS.filled_ok H.out.ok t x y); obtain ⟨d0, d1, d2⟩ := hP.hold))
    go_wp2_with fail
    go_ret
    subst he hs
    exact ⟨rfl, hP, cA.of_drew⟩
set_option maxHeartbeats 1000000 in
theorem rpCopy_any (p b : Nat) (s : BS) (x y : Int) (w : World) (h : RPq p b s x y w) : Calls Try.prog 97 #[.pointer (some ⟨p, 0, none⟩)] w fun e w' => ∃ q, e = .returned (.pointer (some ⟨q, 0, none⟩)) ∧ RPq q w.heap.size s x y w' ∧ Below w.heap.size w w' ∧ w.heap.size < q := by
  obtain ⟨c0, c1, c2⟩ := h.hold
  have H := Lib.hid h; clear h
  go_enter Try.func97, Try.ntmps97
  go_wp2_with fail
  go_region_held3 (fun w' => w'.cell? ⟨p, 0, none⟩ = some (.pointer (some ⟨b, 0, none⟩)) ∧ w'.cell? ⟨p, 1, none⟩ = some (.int .i64 x) ∧ w'.cell? ⟨p, 2, none⟩ = some (.int .i64 y)) (first | exact ⟨by assumption, by assumption, by assumption⟩ | go_simp) (first | (go_at_call 85; refine (rbCopy_any b s w.drew H.out.bk).mono ?_; rintro e wA ⟨rfl, hA, cA⟩; have hP := H.out.drew.step cA; obtain ⟨d0, d1, d2⟩ := hP.hold; have HA := Lib.hid hA; have CA := Lib.hid cA; have pl := lt_of_block hP.pc; clear hA cA))
  go_wp2_with fail
  go_ret
  have g : Below w.heap.size w (wA.alloc (.cells #[.pointer (some ⟨w.heap.size, 0, none⟩), .int .i64 x, .int .i64 y] 141 (0, 0))) := (Below.of_drew CA.out).alloc CA.out.size _
  exact ⟨wA.heap.size, rfl, ⟨new_at _ _, HA.out.below ((Below.refl _ _).alloc (Nat.le_refl _) _), H.out.ok, H.out.may⟩, g, lt_of_block HA.out⟩
theorem rpNew_yes (u t : Int) (w : World) (hb : BS.newE u t = 0) : Calls Try.prog 90 #[.int .i64 u, .int .i64 t] w fun e w' => ∃ q, e = .returned (.tuple #[.pointer (some ⟨q, 0, none⟩), .int .i64 0]) ∧ RPq q w.heap.size (BS.new u t) 0 1 w' ∧ Below w.heap.size w w' ∧ w.heap.size < q := by
  go_enter Try.func90, Try.ntmps90
  go_wp2_with fail
  refine (rbNew_yes u t _ hb).mono ?_
  rintro e wA ⟨rfl, hA, bA⟩
  have HA := Lib.hid hA; have BA := Lib.hid bA; clear hA bA
  go_wp2_with fail
  go_ret2
  exact ⟨wA.heap.size, rfl, ⟨new_at _ _, HA.out.below ((Below.refl _ _).alloc (Nat.le_refl _) _), BS.new_ok hb, by decide⟩, BA.out.alloc BA.out.size _, lt_of_block HA.out⟩
theorem rpNew_no (u t : Int) (w : World) (hb : BS.newE u t ≠ 0) : Calls Try.prog 90 #[.int .i64 u, .int .i64 t] w fun e w' => e = .returned (.tuple #[.pointer none, .int .i64 2]) ∧ w = w' := by
  go_enter Try.func90, Try.ntmps90
  go_wp2_with (first | (go_at_call 80; refine (rbNew_no u t _ hb).mono ?_; rintro e w' ⟨rfl, rfl⟩))
  go_ret2
  exact ⟨rfl, rfl⟩
set_option maxHeartbeats 1600000 in
theorem rpSet_any (p b : Nat) (s : BS) (x y t c m : Int) (w : World) (h : RPq p b s x y w) : Calls Try.prog 93 #[.pointer (some ⟨p, 0, none⟩), .int .i64 t, .int .i64 c, .int .i64 m] w fun e w' => e = .returned (.int .i64 (s.setE x y t c m)) ∧ RPq p b (s.setS x y t c m) (s.setX x y t c m) (s.setY x y t c m) w' ∧ Ch2 p b w w' := by
  have H := Lib.hid h
  have hok := h.ok; have hmay := h.may
  clear h
  unfold BS.setS BS.setX BS.setY
  rcases ho : setOk t c m with _ | _
  · have e : s.setE x y t c m = 2 := by unfold BS.setE; rw [if_neg (by rw [ho]; simp)]
    rw [e, if_neg (by decide), if_neg (by decide), if_neg (by decide)]
    clear e
    unfold setOk at ho
    rcases ht : isNum t with _ | _
    · clear ho
      go_enter Try.func93, Try.ntmps93
      go_wp2_with
        (first | (go_at_call 133; refine (rTime14_any _ _).mono ?_; rintro e w' ⟨rfl, rfl⟩) | (go_at_call 137; refine (rSize14_any _ _).mono ?_; rintro e w' ⟨rfl, rfl⟩))
      go_ret
      exact ⟨rfl, H.out, (Ch.refl p w).left⟩
    · by_cases h1 : 1 ≤ c
      · by_cases h2 : c ≤ 1099511627776
        · rw [ht, decide_eq_true ⟨h1, h2⟩] at ho
          have hm : isNum m = false := by simpa using ho
          clear ho
          go_enter Try.func93, Try.ntmps93
          go_wp2_with
            (first | (go_at_call 133; refine (rTime14_any _ _).mono ?_; rintro e w' ⟨rfl, rfl⟩) | (go_at_call 137; refine (rSize14_any _ _).mono ?_; rintro e w' ⟨rfl, rfl⟩))
          go_ret
          exact ⟨rfl, H.out, (Ch.refl p w).left⟩
        · clear ho
          go_enter Try.func93, Try.ntmps93
          go_wp2_with
            (first | (go_at_call 133; refine (rTime14_any _ _).mono ?_; rintro e w' ⟨rfl, rfl⟩) | (go_at_call 137; refine (rSize14_any _ _).mono ?_; rintro e w' ⟨rfl, rfl⟩))
          go_ret
          exact ⟨rfl, H.out, (Ch.refl p w).left⟩
      · clear ho
        go_enter Try.func93, Try.ntmps93
        go_wp2_with
          (first | (go_at_call 133; refine (rTime14_any _ _).mono ?_; rintro e w' ⟨rfl, rfl⟩) | (go_at_call 137; refine (rSize14_any _ _).mono ?_; rintro e w' ⟨rfl, rfl⟩))
        go_ret
        exact ⟨rfl, H.out, (Ch.refl p w).left⟩
  · obtain ⟨ht, ⟨h1, h2⟩, hm⟩ := setOk_true ho
    have e : s.setE x y t c m = s.fillE t x y := by unfold BS.setE; rw [if_pos ho]
    rw [e]
    clear e ho
    obtain ⟨m0, m1⟩ := isNum_true hm
    by_cases hb : t < s.t
    · have f := BS.fillE_back ht hmay hb
      have fs := BS.filled_no (s := s) (t := t) (x := x) (y := y) (by rw [f]; decide)
      rw [f, if_neg (by decide), if_neg (by decide), if_neg (by decide)]
      go_enter Try.func93, Try.ntmps93
      go_wp2_with
        (first | (go_at_call 133; refine (rTime14_any _ _).mono ?_; rintro e w' ⟨rfl, rfl⟩) | (go_at_call 137; refine (rSize14_any _ _).mono ?_; rintro e w' ⟨rfl, rfl⟩))
      refine (rCome_e p b s _ x y t 210 _ ht f fs H.out).mono ?_
      rintro e wA ⟨rfl, hA, cA⟩
      have HA := Lib.hid hA; clear hA
      go_wp2_with fail
      go_ret
      exact ⟨rfl, HA.out, cA.right⟩
    · have f := BS.fillE_yes (s := s) ht hmay (by omega)
      have fs := BS.filled_yes f
      rw [f, if_pos rfl, if_pos rfl, if_pos rfl]
      obtain ⟨S, hS⟩ : ∃ S, s.fill t x y = S := ⟨_, rfl⟩
      rw [hS] at fs ⊢
      have hmy := Lib.hid (may_set (m := m) ⟨h1, h2⟩)
      go_enter Try.func93, Try.ntmps93
      go_wp2_with
        (first | (go_at_call 133; refine (rTime14_any _ _).mono ?_; rintro e w' ⟨rfl, rfl⟩) | (go_at_call 137; refine (rSize14_any _ _).mono ?_; rintro e w' ⟨rfl, rfl⟩))
      refine (rCome_e p b s S x y t 0 _ ht f fs H.out).mono ?_
      rintro e wA ⟨rfl, hA, cA⟩
      have f1 : wA.frozen? ⟨p, 1, none⟩ = false := freeOf hA.pc
      have f2 : wA.frozen? ⟨p, 2, none⟩ = false := freeOf hA.pc
      have pl := lt_of_block hA.pc
      obtain ⟨d0, d1, d2⟩ := hA.hold
      have HA := Lib.hid hA; clear hA
      go_wp2_with fail
      go_ret
      refine ⟨rfl, ⟨?_, ?_, HA.out.ok, hmy.out⟩, ?_⟩
      · have hau : wA.heap[p]? = some (.cells #[.pointer (some ⟨b, 0, none⟩), .int .i64 x, .int .i64 y] 141 (0, 0)) := HA.out.pc
        show (World.heap _)[p]? = _
        apply at_eq
        · (repeat (first | with_reducible exact hau | with_reducible apply set_at | with_reducible apply drewN_at | with_reducible apply drew_at))
        · rfl
      · exact ((Ch.refl p wA).setc.setc).at (Ne.symm HA.out.ne) HA.out.bk
      · exact cA.right.trans ((Ch.refl p wA).setc.setc).left
set_option maxHeartbeats 1600000 in
theorem rpSend_any (p b : Nat) (s : BS) (x y t z : Int) (w : World) (h : RPq p b s x y w) : Calls Try.prog 95 #[.pointer (some ⟨p, 0, none⟩), .int .i64 t, .int .i64 z] w fun e w' => e = .returned (.int .i64 (s.sendE x y t z)) ∧ Ch p w w' ∧ ∃ b', RPq p b' (s.sent x y t z) x y w' ∧ (b' = b ∨ w.heap.size ≤ b') := by
  have H := Lib.hid h
  have hok := h.ok; have hmay := h.may
  clear h
  by_cases ha : isNum t = true ∧ isSz1 z = true
  · obtain ⟨ht, hz⟩ := ha
    by_cases hb : t < s.t
    · have e : s.sendE x y t z = 210 := by unfold BS.sendE; rw [if_pos ⟨ht, hz⟩, if_pos hb]
      have e2 : s.sent x y t z = s := by unfold BS.sent; rw [if_neg (by rw [e]; decide)]
      have f := BS.fillE_back ht hmay hb
      rw [e, e2]
      clear e e2
      go_enter Try.func95, Try.ntmps95
      go_wp2_with
        (first | (go_at_call 133; refine (rTime14_any _ _).mono ?_; rintro e w' ⟨rfl, rfl⟩) | (go_at_call 137; refine (rSize14_any _ _).mono ?_; rintro e w' ⟨rfl, rfl⟩))
      refine (rpCopy_any p b s x y _ H.out).mono ?_
      rintro e w1 ⟨q, rfl, h1, b1, q1⟩
      go_wp2_with fail
      refine (rCome_e q w.heap.size s _ x y t 210 _ ht f rfl h1).mono ?_
      rintro e w2 ⟨rfl, h2, c2⟩
      have b2 : Below w.heap.size w w2 := c2.below b1 (Nat.le_refl _) b1.size
      have HB := Lib.hid b2
      clear h2 c2 b1 h1 b2
      go_wp2_with fail
      go_ret
      exact ⟨rfl, Ch.of_below HB.out, _, H.out.step HB.out, Or.inl rfl⟩
    · have f := BS.fillE_yes (s := s) ht hmay (by omega)
      have fs := BS.filled_yes f
      obtain ⟨S, hS⟩ : ∃ S, s.fill t x y = S := ⟨_, rfl⟩
      rw [hS] at fs
      by_cases hn : S.n < z
      · have e : s.sendE x y t z = 213 := by unfold BS.sendE; rw [if_pos ⟨ht, hz⟩, if_neg hb, hS, if_pos hn]
        have e2 : s.sent x y t z = s := by unfold BS.sent; rw [if_neg (by rw [e]; decide)]
        rw [e, e2]
        clear e e2
        have k := BS.takeE_big (s := S) (k := z) hn (by have := isSz1_true hz; omega)
        go_enter Try.func95, Try.ntmps95
        go_wp2_with
          (first | (go_at_call 133; refine (rTime14_any _ _).mono ?_; rintro e w' ⟨rfl, rfl⟩) | (go_at_call 137; refine (rSize14_any _ _).mono ?_; rintro e w' ⟨rfl, rfl⟩))
        refine (rpCopy_any p b s x y _ H.out).mono ?_
        rintro e w1 ⟨q, rfl, h1, b1, q1⟩
        go_wp2_with fail
        refine (rCome_e q w.heap.size s S x y t 0 _ ht f fs h1).mono ?_
        rintro e w2 ⟨rfl, h2, c2⟩
        have b2 : Below w.heap.size w w2 := c2.below b1 (Nat.le_refl _) b1.size
        have HB := Lib.hid b2
        have d0 := h2.hold.1
        have H2 := Lib.hid h2
        clear h2 c2 b1 h1 b2
        go_wp2_with (first | (go_at_call 82; refine (rbTake_any w.heap.size S z _ H2.out.bk H2.out.ok).mono ?_; rintro e w3 ⟨rfl, h3, c3⟩; have HC := Lib.hid c3; clear h3 c3))
        go_ret
        have hb3 : Below w.heap.size w w3 := HC.out.below HB.out (Nat.le_refl _) HB.out.size
        exact ⟨rfl, Ch.of_below hb3, _, H.out.step hb3, Or.inl rfl⟩
      · have e : s.sendE x y t z = 0 := by unfold BS.sendE; rw [if_pos ⟨ht, hz⟩, if_neg hb, hS, if_neg hn]
        have e2 : s.sent x y t z = S.taken z := by unfold BS.sent; rw [if_pos e, hS]
        rw [e, e2]
        clear e e2
        have k := BS.takeE_yes (s := S) (k := z) (by have := isSz1_true hz; omega) (by omega)
        go_enter Try.func95, Try.ntmps95
        go_wp2_with
          (first | (go_at_call 133; refine (rTime14_any _ _).mono ?_; rintro e w' ⟨rfl, rfl⟩) | (go_at_call 137; refine (rSize14_any _ _).mono ?_; rintro e w' ⟨rfl, rfl⟩))
        refine (rpCopy_any p b s x y _ H.out).mono ?_
        rintro e w1 ⟨q, rfl, h1, b1, q1⟩
        go_wp2_with fail
        refine (rCome_e q w.heap.size s S x y t 0 _ ht f fs h1).mono ?_
        rintro e w2 ⟨rfl, h2, c2⟩
        have b2 : Below w.heap.size w w2 := c2.below b1 (Nat.le_refl _) b1.size
        have d0 := h2.hold.1
        have HB := Lib.hid b2
        have H2 := Lib.hid h2
        clear h2 c2 b1 h1 b2
        go_wp2_with fail
        refine (rbTake_any w.heap.size S z _ H2.out.bk H2.out.ok).mono ?_
        rintro e w3 ⟨rfl, h3, c3⟩
        have hb3 : Below w.heap.size w w3 := c3.below HB.out (Nat.le_refl _) HB.out.size
        have hc3 := H2.out.to h3 c3 (BS.taken_ok H2.out.ok z)
        have e0 := hc3.hold.1
        have hp3 := H.out.step hb3
        have f0 : w3.frozen? ⟨p, 0, none⟩ = false := freeOf hp3.pc
        have pl := lt_of_block hp3.pc
        have plw := lt_of_block H.out.pc
        have g0 := hp3.hold.1
        have HC := Lib.hid hc3; have HP := Lib.hid hp3; have HB3 := Lib.hid hb3
        clear h3 c3 hb3 hc3 hp3 d0
        go_wp2_with fail
        go_ret
        refine ⟨rfl, (Ch.of_below HB3.out).setc, w.heap.size, ⟨?_, ?_, HC.out.ok, HC.out.may⟩, Or.inr (Nat.le_refl _)⟩
        · have hau : w3.heap[p]? = some (.cells #[.pointer (some ⟨b, 0, none⟩), .int .i64 x, .int .i64 y] 141 (0, 0)) := HP.out.pc
          exact set_at hau
        · exact ((Ch.refl p w3).setc).at (by omega) HC.out.bk
  · have e : s.sendE x y t z = 2 := if_neg ha
    have e2 : s.sent x y t z = s := by unfold BS.sent; rw [if_neg (by rw [e]; decide)]
    rw [e, e2]
    clear e e2
    rcases ht : isNum t with _ | _
    · clear ha
      go_enter Try.func95, Try.ntmps95
      go_wp2_with
        (first | (go_at_call 133; refine (rTime14_any _ _).mono ?_; rintro e w' ⟨rfl, rfl⟩) | (go_at_call 137; refine (rSize14_any _ _).mono ?_; rintro e w' ⟨rfl, rfl⟩))
      go_ret
      exact ⟨rfl, Ch.refl _ _, _, H.out, Or.inl rfl⟩
    · have hz : isSz1 z = false := by
        rcases hz : isSz1 z with _ | _
        · rfl
        · exact absurd ⟨ht, hz⟩ ha
      clear ha
      go_enter Try.func95, Try.ntmps95
      go_wp2_with
        (first | (go_at_call 133; refine (rTime14_any _ _).mono ?_; rintro e w' ⟨rfl, rfl⟩) | (go_at_call 137; refine (rSize14_any _ _).mono ?_; rintro e w' ⟨rfl, rfl⟩))
      go_ret
      exact ⟨rfl, Ch.refl _ _, _, H.out, Or.inl rfl⟩
theorem rpCan_any (p b : Nat) (s : BS) (x y t z : Int) (w : World) (h : RPq p b s x y w) : Calls Try.prog 138 #[.pointer (some ⟨p, 0, none⟩), .int .i64 t, .int .i64 z] w fun e w' => e = .returned (.bool (s.canB x y t z)) ∧ Below w.heap.size w w' := by
  have H := Lib.hid h
  clear h
  unfold BS.canB
  go_enter Try.func138, Try.ntmps138
  go_wp2_with fail
  refine (rpCopy_any p b s x y _ H.out).mono ?_
  rintro e w1 ⟨q, rfl, h1, b1, q1⟩
  go_wp2_with fail
  refine (rpSend_any q w.heap.size s x y t z _ h1).mono ?_
  rintro e w2 ⟨rfl, c2, _⟩
  have b2 : Below w.heap.size w w2 := c2.below b1 (by omega) b1.size
  have HB := Lib.hid b2
  clear c2 b1 h1 b2
  go_wp2_with fail
  go_ret
  exact ⟨rfl, HB.out⟩
set_option maxHeartbeats 1000000 in
theorem rpWhen_any (p b : Nat) (s : BS) (x y z : Int) (w : World) (h : RPq p b s x y w) : Calls Try.prog 139 #[.pointer (some ⟨p, 0, none⟩), .int .i64 z] w fun e w' => e = .returned (.int .i64 (s.whenP x y z)) ∧ Below w.heap.size w w' := by
  have H := Lib.hid h
  obtain ⟨c0, c1, c2⟩ := h.hold
  clear h
  unfold BS.whenP
  rcases hz : isSz1 z with _ | _
  · rw [if_neg (by simp)]
    go_enter Try.func139, Try.ntmps139
    go_wp2_with
      (first | (go_at_call 133; refine (rTime14_any _ _).mono ?_; rintro e w' ⟨rfl, rfl⟩) | (go_at_call 137; refine (rSize14_any _ _).mono ?_; rintro e w' ⟨rfl, rfl⟩))
    go_ret
    exact ⟨rfl, Below.refl _ _⟩
  · rw [if_pos rfl]
    go_enter Try.func139, Try.ntmps139
    go_wp2_with
      (first | (go_at_call 133; refine (rTime14_any _ _).mono ?_; rintro e w' ⟨rfl, rfl⟩) | (go_at_call 137; refine (rSize14_any _ _).mono ?_; rintro e w' ⟨rfl, rfl⟩))
    go_region_held3 (fun w' => w'.cell? ⟨p, 0, none⟩ = some (.pointer (some ⟨b, 0, none⟩)) ∧ w'.cell? ⟨p, 1, none⟩ = some (.int .i64 x) ∧ w'.cell? ⟨p, 2, none⟩ = some (.int .i64 y)) (first | exact ⟨by assumption, by assumption, by assumption⟩ | go_simp) (first | (go_at_call 84; refine (rbWhen_any b s z x y w.drew H.out.bk H.out.ok).mono ?_; rintro e wA ⟨rfl, cA⟩; have hP := H.out.drew.step cA; obtain ⟨d0, d1, d2⟩ := hP.hold))
    go_wp2_with fail
    go_ret
    exact ⟨rfl, Below.of_drew cA⟩
set_option maxHeartbeats 1600000 in
theorem rpLeft_any (p b : Nat) (s : BS) (x y t : Int) (w : World) (h : RPq p b s x y w) : Calls Try.prog 140 #[.pointer (some ⟨p, 0, none⟩), .int .i64 t] w fun e w' => e = .returned (.int .i64 (s.leftP x y t)) ∧ Below w.heap.size w w' := by
  have H := Lib.hid h
  have hmay := h.may
  clear h
  rcases ht : isNum t with _ | _
  · have e : s.leftP x y t = 0 := by unfold BS.leftP; rw [BS.fillE_time ht, if_neg (by decide)]
    rw [e]
    clear e
    go_enter Try.func140, Try.ntmps140
    go_wp2_with fail
    refine (rpCopy_any p b s x y _ H.out).mono ?_
    rintro e w1 ⟨q, rfl, h1, b1, q1⟩
    have HB := Lib.hid b1; clear b1 h1
    go_wp2_with
      (first | (go_at_call 133; refine (rTime14_any _ _).mono ?_; rintro e w' ⟨rfl, rfl⟩) | (go_at_call 137; refine (rSize14_any _ _).mono ?_; rintro e w' ⟨rfl, rfl⟩))
    go_ret
    exact ⟨rfl, HB.out⟩
  · obtain ⟨E, hE⟩ : ∃ E, s.fillE t x y = E := ⟨_, rfl⟩
    by_cases g : E = 0
    · have e : s.leftP x y t = (s.filled t x y).n := by unfold BS.leftP; rw [hE, if_pos g, BS.filled_yes (hE.trans g)]
      rw [e]
      clear e
      go_enter Try.func140, Try.ntmps140
      go_wp2_with fail
      refine (rpCopy_any p b s x y _ H.out).mono ?_
      rintro e w1 ⟨q, rfl, h1, b1, q1⟩
      go_wp2_with
        (first | (go_at_call 133; refine (rTime14_any _ _).mono ?_; rintro e w' ⟨rfl, rfl⟩) | (go_at_call 137; refine (rSize14_any _ _).mono ?_; rintro e w' ⟨rfl, rfl⟩))
      refine (rCome_e q w.heap.size s _ x y t E _ ht hE rfl h1).mono ?_
      rintro e w2 ⟨rfl, h2, c2⟩
      have b2 : Below w.heap.size w w2 := c2.below b1 (Nat.le_refl _) b1.size
      have d0 := h2.hold.1
      have d1 := h2.holdb.1
      have HB := Lib.hid b2
      clear c2 b1 h1 h2 b2 q1 hE
      subst g
      go_wp2_with fail
      go_ret
      exact ⟨rfl, HB.out⟩
    · have e : s.leftP x y t = 0 := by unfold BS.leftP; rw [hE, if_neg g]
      rw [e]
      have g' : (E == 0) = false := beq_eq_false_iff_ne.2 g
      clear e
      go_enter Try.func140, Try.ntmps140
      go_wp2_with fail
      refine (rpCopy_any p b s x y _ H.out).mono ?_
      rintro e w1 ⟨q, rfl, h1, b1, q1⟩
      go_wp2_with
        (first | (go_at_call 133; refine (rTime14_any _ _).mono ?_; rintro e w' ⟨rfl, rfl⟩) | (go_at_call 137; refine (rSize14_any _ _).mono ?_; rintro e w' ⟨rfl, rfl⟩))
      refine (rCome_e q w.heap.size s _ x y t E _ ht hE rfl h1).mono ?_
      rintro e w2 ⟨rfl, h2, c2⟩
      have b2 : Below w.heap.size w w2 := c2.below b1 (Nat.le_refl _) b1.size
      have HB := Lib.hid b2
      clear c2 b1 h1 h2 b2 q1 hE
      go_wp2_with fail
      go_ret
      exact ⟨rfl, HB.out⟩

end Go.Proofs.Ytcholjdbmmgakaa
