/- The walk of PacePlays. -/
import Derived.Test.YtcholjdbmmgakaaPaceW
namespace Go.Proofs.Ytcholjdbmmgakaa
open Go.RowKit Sat

theorem ne_types {w : World} {i j : Nat} {cs cs' : Array Value} {t t' : TypeId} (h : w.heap[i]? = some (.cells cs t (0, 0))) (h' : w.heap[j]? = some (.cells cs' t' (0, 0))) (ne : t ≠ t') : i ≠ j := fun e => by
  rw [e, h'] at h
  injection h with h; injection h with _ h3; exact ne h3.symm
section
variable {p b m n : Nat} {s s' : BS} {x y x' y' : Int} {w w' : World}
theorem RPq.ch2 (h : RPq m n s' x' y' w) (q : Pq p b s x y w) (c : Ch2 p b w w') : RPq m n s' x' y' w' :=
  ⟨c.at (ne_types h.pc q.pc (by decide)) (ne_types h.pc q.bk (by decide)) h.pc, c.at (ne_types h.bk q.pc (by decide)) (ne_types h.bk q.bk (by decide)) h.bk, h.ok, h.may⟩
theorem Pq.ch2 (h : Pq p b s x y w) (q : RPq m n s' x' y' w) (c : Ch2 m n w w') : Pq p b s x y w' :=
  ⟨c.at (ne_types h.pc q.pc (by decide)) (ne_types h.pc q.bk (by decide)) h.pc, c.at (ne_types h.bk q.pc (by decide)) (ne_types h.bk q.bk (by decide)) h.bk, h.ok, h.may⟩
theorem Pq.chx {a : Nat} (h : Pq p b s x y w) (c : Ch a w w') (hp : p ≠ a) (hb : b ≠ a) : Pq p b s x y w' := ⟨c.at hp h.pc, c.at hb h.bk, h.ok, h.may⟩
theorem RPq.chx {a : Nat} (h : RPq p b s x y w) (c : Ch a w w') (hp : p ≠ a) (hb : b ≠ a) : RPq p b s x y w' := ⟨c.at hp h.pc, c.at hb h.bk, h.ok, h.may⟩
end
/-- A pacer and a reference in memory of the call's own. -/
structure PP (p b m n : Nat) (s : BS) (x y : Int) (s' : BS) (x' y' : Int) (B : Nat) (w0 w : World) : Prop where
  pq : Pq p b s x y w
  rq : RPq m n s' x' y' w
  gr : Gr B w0 w
  hp : B ≤ p
  hb : B ≤ b
  hm : B ≤ m
  hn : B ≤ n
section
variable {p b m n : Nat} {s s' : BS} {x y x' y' : Int} {B : Nat} {w0 w w' : World}
theorem PP.step (h : PP p b m n s x y s' x' y' B w0 w) (g : Below w.heap.size w w') : PP p b m n s x y s' x' y' B w0 w' := ⟨h.pq.step g, h.rq.step g, h.gr.step g, h.hp, h.hb, h.hm, h.hn⟩
theorem set_pp {t c k : Int} (h : PP p b m n s x y s' x' y' B w0 w) : Calls Try.prog 92 #[.pointer (some ⟨p, 0, none⟩), .int .i64 t, .int .i64 c, .int .i64 k] w fun e w' => e = .returned (.int .i64 (s.setE x y t c k)) ∧ PP p b m n (s.setS x y t c k) (s.setX x y t c k) (s.setY x y t c k) s' x' y' B w0 w' ∧ Ch2 p b w w' :=
  (pSet_any p b s x y t c k w h.pq).mono fun _ _ ⟨h1, h2, h3⟩ => ⟨h1, ⟨h2, h.rq.ch2 h.pq h3, h.gr.ch2 h3 h.hp h.hb, h.hp, h.hb, h.hm, h.hn⟩, h3⟩
theorem rset_pp {t c k : Int} (h : PP p b m n s x y s' x' y' B w0 w) : Calls Try.prog 93 #[.pointer (some ⟨m, 0, none⟩), .int .i64 t, .int .i64 c, .int .i64 k] w fun e w' => e = .returned (.int .i64 (s'.setE x' y' t c k)) ∧ PP p b m n s x y (s'.setS x' y' t c k) (s'.setX x' y' t c k) (s'.setY x' y' t c k) B w0 w' ∧ Ch2 m n w w' :=
  (rpSet_any m n s' x' y' t c k w h.rq).mono fun _ _ ⟨h1, h2, h3⟩ => ⟨h1, ⟨h.pq.ch2 h.rq h3, h2, h.gr.ch2 h3 h.hm h.hn, h.hp, h.hb, h.hm, h.hn⟩, h3⟩
theorem send_pp {t z : Int} (h : PP p b m n s x y s' x' y' B w0 w) : Calls Try.prog 94 #[.pointer (some ⟨p, 0, none⟩), .int .i64 t, .int .i64 z] w fun e w' => ∃ b', e = .returned (.int .i64 (s.sendE x y t z)) ∧ PP p b' m n (s.sent x y t z) x y s' x' y' B w0 w' ∧ Ch p w w' :=
  (pSend_any p b s x y t z w h.pq).mono fun _ _ ⟨h1, h2, b', h3, h4⟩ => ⟨b', h1, ⟨h3, h.rq.ch2 h.pq h2.left, h.gr.ch h2 h.hp, h.hp, by rcases h4 with g | g; (rw [g]; exact h.hb); exact Nat.le_trans h.gr.2 g, h.hm, h.hn⟩, h2⟩
theorem rsend_pp {t z : Int} (h : PP p b m n s x y s' x' y' B w0 w) : Calls Try.prog 95 #[.pointer (some ⟨m, 0, none⟩), .int .i64 t, .int .i64 z] w fun e w' => ∃ n', e = .returned (.int .i64 (s'.sendE x' y' t z)) ∧ PP p b m n' s x y (s'.sent x' y' t z) x' y' B w0 w' ∧ Ch m w w' :=
  (rpSend_any m n s' x' y' t z w h.rq).mono fun _ _ ⟨h1, h2, b', h3, h4⟩ => ⟨b', h1, ⟨h.pq.ch2 h.rq h2.left, h3, h.gr.ch h2 h.hm, h.hp, h.hb, h.hm, by rcases h4 with g | g; (rw [g]; exact h.hn); exact Nat.le_trans h.gr.2 g⟩, h2⟩
end
/-- Block K is a call's description. -/
def Do14 (K : Nat) (dk dt dc dz : Int) (w : World) : Prop := w.heap[K]? = some (.cells #[.int .i64 dk, .int .i64 dt, .int .i64 dc, .int .i64 dz] 99 (0, 0))
theorem Do14.hold {K : Nat} {dk dt dc dz : Int} {w : World} (h : Do14 K dk dt dc dz w) : w.cell? ⟨K, 1, none⟩ = some (.int .i64 dt) ∧ w.cell? ⟨K, 2, none⟩ = some (.int .i64 dc) ∧ w.cell? ⟨K, 3, none⟩ = some (.int .i64 dz) :=
  ⟨cellOf h rfl, cellOf h rfl, cellOf h rfl⟩

set_option maxRecDepth 100000 in
set_option maxHeartbeats 4000000 in
theorem pacePlays_bad (w : World) (bu t : Int) (hbad : BS.newE bu t ≠ 0) (a0 : Option Addr) (len cap : Nat) :
    Calls Try.prog 22 #[.int .i64 bu, .int .i64 t, .slice a0 len cap] w fun e w' => e = .returned (.bool true) ∧ Below w.heap.size w w' := by
  go_enter Try.func22, Try.ntmps22
  go_wp2_with fail
  refine (pNew_no bu t _ hbad).mono ?_
  rintro e w1 ⟨rfl, rfl⟩
  go_wp2_with fail
  refine (rpNew_no bu t _ hbad).mono ?_
  rintro e w2 ⟨rfl, rfl⟩
  go_wp2_with (go_at_call 91; refine (works14_any (Gr.refl _)).mono ?_; rintro e wz ⟨rfl, hz⟩)
  go_ret
  exact ⟨rfl, hz.1⟩

set_option maxRecDepth 100000 in
set_option maxHeartbeats 4000000 in
theorem pacePlays_none (w : World) (bu t : Int) (hnew : BS.newE bu t = 0) (a0 : Option Addr) (cap : Nat) :
    Calls Try.prog 22 #[.int .i64 bu, .int .i64 t, .slice a0 0 cap] w fun e w' => e = .returned (.bool true) ∧ Below w.heap.size w w' := by
  have g := Gr.refl w
  go_enter Try.func22, Try.ntmps22
  go_wp2_with fail
  refine (pNew_yes bu t _ hnew).mono ?_
  rintro e w1 ⟨p0, rfl, l1, b1, q1⟩
  go_wp2_with fail
  refine (rpNew_yes bu t _ hnew).mono ?_
  rintro e w2 ⟨m0, rfl, l2, b2, q2⟩
  have h2 : PP p0 w.heap.size m0 w1.heap.size (BS.new bu t) 0 1 (BS.new bu t) 0 1 w.heap.size w w2 := ⟨l1.step b2, l2, (g.step b1).step b2, by omega, Nat.le_refl _, by have := b1.size; omega, b1.size⟩
  clear l1 b1 l2 b2 q1 q2
  go_wp2_with fail
  go_loopw [7, 9, 11] (fun p m i wr => p = .pointer (some ⟨p0, 0, none⟩) ∧ m = .pointer (some ⟨m0, 0, none⟩) ∧ i = .int .i64 0 ∧ wr = w2) (fun _ _ _ _ => 0)
  case atStart => exact ⟨rfl, rfl, rfl, rfl⟩
  case round =>
    obtain ⟨rfl, rfl, rfl, rfl⟩ := hrel
    have hpw := h2
    go_wp2_with (first | (go_at_call 98; refine (same14_any _ _ _ _ _ _ _ _ _ _ hpw.pq hpw.rq).mono ?_; rintro e wE ⟨rfl, hbE⟩; have hpw3 := hpw.gr.step hbE) | (go_at_call 91; refine (works14_any hpw3).mono ?_; rintro e wz ⟨rfl, hz⟩))
    go_ret
    exact ⟨rfl, hz.1⟩

set_option maxRecDepth 100000 in
set_option maxHeartbeats 8000000 in
theorem pacePlays_some (w : World) (bu t : Int) (hnew : BS.newE bu t = 0) (b0 off len cap : Nat) (zs : List Int) (hb : b0 < w.heap.size) (hc : ∀ j, j < len * 4 → w.cell? ⟨b0, off + j, none⟩ = some (.int .i64 (zs.getD j 0))) (hl : len ≤ 9223372036854775807) (hz : ∀ n ∈ zs, okI n) :
    Calls Try.prog 22 #[.int .i64 bu, .int .i64 t, .slice (some ⟨b0, off, none⟩) len cap] w fun e w' => e = .returned (.bool true) ∧ Below w.heap.size w w' := by
  have HC := Lib.hid hc; clear hc
  have HZ := Lib.hid hz; clear hz
  have g := Gr.refl w
  go_enter Try.func22, Try.ntmps22
  go_wp2_with fail
  refine (pNew_yes bu t _ hnew).mono ?_
  rintro e w1 ⟨p0, rfl, l1, b1, q1⟩
  go_wp2_with fail
  refine (rpNew_yes bu t _ hnew).mono ?_
  rintro e w2 ⟨m0, rfl, l2, b2, q2⟩
  have h2 : PP p0 w.heap.size m0 w1.heap.size (BS.new bu t) 0 1 (BS.new bu t) 0 1 w.heap.size w w2 := ⟨l1.step b2, l2, (g.step b1).step b2, by omega, Nat.le_refl _, by have := b1.size; omega, b1.size⟩
  clear l1 b1 l2 b2 q1 q2
  go_wp2_with fail
  go_loopw [7, 9, 11] (fun pv mv i wr => ∃ (k p b m n : Nat) (s : BS) (x y : Int), k ≤ len ∧ k ≤ 80 ∧ pv = .pointer (some ⟨p, 0, none⟩) ∧ mv = .pointer (some ⟨m, 0, none⟩) ∧ i = .int .i64 k ∧ PP p b m n s x y s x y w.heap.size w wr) (fun _ _ i _ => (80 - intOf i).toNat)
  case atStart => exact ⟨0, _, _, _, _, _, _, _, by omega, by omega, rfl, rfl, rfl, h2⟩
  case round =>
    obtain ⟨k, p, b, m, n, s, x, y, k1, k2, rfl, rfl, rfl, hpw⟩ := hrel
    clear h2
    by_cases hlt : k < len ∧ k < 80
    · obtain ⟨hk, hk80⟩ := hlt
      have HC0 := HC.out (k * 4) (by omega); have HC1 := HC.out (k * 4 + 1) (by omega); have HC2 := HC.out (k * 4 + 2) (by omega); have HC3 := HC.out (k * 4 + 3) (by omega)
      have o0 := okI_getD HZ.out (k * 4)
      generalize zs.getD (k * 4) 0 = dk at HC0 o0
      generalize zs.getD (k * 4 + 1) 0 = dt at HC1
      generalize zs.getD (k * 4 + 2) 0 = dc at HC2
      generalize zs.getD (k * 4 + 3) 0 = dz at HC3
      have c0 := (hpw.gr.1.cell (p := ⟨b0, off + (k * 4), none⟩) hb).trans HC0
      have c1 : wr.cell? ⟨b0, off + k * 4 + 1, none⟩ = some (.int .i64 dt) := (hpw.gr.1.cell (p := ⟨b0, off + (k * 4 + 1), none⟩) hb).trans HC1
      have c2 : wr.cell? ⟨b0, off + k * 4 + 2, none⟩ = some (.int .i64 dc) := (hpw.gr.1.cell (p := ⟨b0, off + (k * 4 + 2), none⟩) hb).trans HC2
      have c3 : wr.cell? ⟨b0, off + k * 4 + 3, none⟩ = some (.int .i64 dz) := (hpw.gr.1.cell (p := ⟨b0, off + (k * 4 + 3), none⟩) hb).trans HC3
      clear HC0 HC1 HC2 HC3
      have q0 : (0 : Int) ≤ (k : Int) := by omega
      have q1 : (k : Int) < (len : Int) := by omega
      have q2 : (k : Int) < 80 := by omega
      have HK := Lib.hid (fun w => bring_any dk 6 w o0 (by omega) (by omega))
      have t0 : 0 ≤ dk % 6 := Int.emod_nonneg _ (by omega)
      have t1 : dk % 6 < 6 := Int.emod_lt_of_pos _ (by omega)
      obtain ⟨v, hv⟩ : ∃ v, dk % 6 = v := ⟨_, rfl⟩
      rw [hv] at HK t0 t1
      clear hv o0
      have HD := Lib.hid (show PP p b m n s x y s x y w.heap.size w (wr.alloc (.cells #[.int .i64 dk, .int .i64 dt, .int .i64 dc, .int .i64 dz] 99 (0, 0))) from hpw.step ((Below.refl _ _).alloc (Nat.le_refl _) _))
      have HO := Lib.hid (show Do14 wr.heap.size dk dt dc dz (wr.alloc (.cells #[.int .i64 dk, .int .i64 dt, .int .i64 dc, .int .i64 dz] 99 (0, 0))) from new_at _ _)
      have n1 : wr.heap.size ≠ p := Ne.symm (Nat.ne_of_lt (lt_of_block hpw.pq.pc))
      have n2 : wr.heap.size ≠ b := Ne.symm (Nat.ne_of_lt (lt_of_block hpw.pq.bk))
      have n3 : wr.heap.size ≠ m := Ne.symm (Nat.ne_of_lt (lt_of_block hpw.rq.pc))
      have n4 : wr.heap.size ≠ n := Ne.symm (Nat.ne_of_lt (lt_of_block hpw.rq.bk))
      have ht6 : v = 0 ∨ v = 1 ∨ v = 2 ∨ v = 3 ∨ v = 4 ∨ v = 5 := by omega
      rcases ht6 with rfl | rfl | rfl | rfl | rfl | rfl
      · skip
        go_wp2_with (first | (go_at_call 57; refine (HK.out _).mono ?_; rintro e w' ⟨rfl, rfl⟩) | (go_at_call 92; refine (set_pp HD.out).mono ?_; rintro e wA ⟨rfl, hpA, cA⟩; have hDA : Do14 wr.heap.size dk dt dc dz wA := cA.at n1 n2 HO.out; obtain ⟨u1, u2, u3⟩ := hDA.hold) | (go_at_call 93; refine (rset_pp hpA).mono ?_; rintro e wB ⟨rfl, hpB, cB⟩; have hDB : Do14 wr.heap.size dk dt dc dz wB := cB.at n3 n4 hDA; obtain ⟨v1, v2, v3⟩ := hDB.hold) | (go_at_call 98; refine (same14_any _ _ _ _ _ _ _ _ _ _ hpB.pq hpB.rq).mono ?_; rintro e wE ⟨rfl, hbE⟩; have hpw3 := hpB.step hbE))
        go_roundw
        case rel => exact ⟨k + 1, _, _, _, _, _, _, _, by omega, by omega, rfl, rfl, by go_num, hpw3⟩
        case measure => simp [intOf]; omega
      · skip
        go_wp2_with (first | (go_at_call 57; refine (HK.out _).mono ?_; rintro e w' ⟨rfl, rfl⟩) | (go_at_call 94; refine (send_pp HD.out).mono ?_; rintro e wA ⟨b', rfl, hpA, cA⟩; have hDA : Do14 wr.heap.size dk dt dc dz wA := cA.at n1 HO.out; obtain ⟨u1, u2, u3⟩ := hDA.hold) | (go_at_call 95; refine (rsend_pp hpA).mono ?_; rintro e wB ⟨n', rfl, hpB, cB⟩; have hDB : Do14 wr.heap.size dk dt dc dz wB := cB.at n3 hDA; obtain ⟨v1, v2, v3⟩ := hDB.hold) | (go_at_call 98; refine (same14_any _ _ _ _ _ _ _ _ _ _ hpB.pq hpB.rq).mono ?_; rintro e wE ⟨rfl, hbE⟩; have hpw3 := hpB.step hbE))
        go_roundw
        case rel => exact ⟨k + 1, _, _, _, _, _, _, _, by omega, by omega, rfl, rfl, by go_num, hpw3⟩
        case measure => simp [intOf]; omega
      · skip
        go_wp2_with (first | (go_at_call 57; refine (HK.out _).mono ?_; rintro e w' ⟨rfl, rfl⟩) | (go_at_call 94; refine (send_pp HD.out).mono ?_; rintro e wA ⟨b', rfl, hpA, cA⟩; have hDA : Do14 wr.heap.size dk dt dc dz wA := cA.at n1 HO.out; obtain ⟨u1, u2, u3⟩ := hDA.hold) | (go_at_call 95; refine (rsend_pp hpA).mono ?_; rintro e wB ⟨n', rfl, hpB, cB⟩; have hDB : Do14 wr.heap.size dk dt dc dz wB := cB.at n3 hDA; obtain ⟨v1, v2, v3⟩ := hDB.hold) | (go_at_call 98; refine (same14_any _ _ _ _ _ _ _ _ _ _ hpB.pq hpB.rq).mono ?_; rintro e wE ⟨rfl, hbE⟩; have hpw3 := hpB.step hbE))
        go_roundw
        case rel => exact ⟨k + 1, _, _, _, _, _, _, _, by omega, by omega, rfl, rfl, by go_num, hpw3⟩
        case measure => simp [intOf]; omega
      · skip
        go_wp2_with (first | (go_at_call 57; refine (HK.out _).mono ?_; rintro e w' ⟨rfl, rfl⟩) | (go_at_call 94; refine (send_pp HD.out).mono ?_; rintro e wA ⟨b', rfl, hpA, cA⟩; have hDA : Do14 wr.heap.size dk dt dc dz wA := cA.at n1 HO.out; obtain ⟨u1, u2, u3⟩ := hDA.hold) | (go_at_call 95; refine (rsend_pp hpA).mono ?_; rintro e wB ⟨n', rfl, hpB, cB⟩; have hDB : Do14 wr.heap.size dk dt dc dz wB := cB.at n3 hDA; obtain ⟨v1, v2, v3⟩ := hDB.hold) | (go_at_call 98; refine (same14_any _ _ _ _ _ _ _ _ _ _ hpB.pq hpB.rq).mono ?_; rintro e wE ⟨rfl, hbE⟩; have hpw3 := hpB.step hbE))
        go_roundw
        case rel => exact ⟨k + 1, _, _, _, _, _, _, _, by omega, by omega, rfl, rfl, by go_num, hpw3⟩
        case measure => simp [intOf]; omega
      · skip
        go_wp2_with (first | (go_at_call 57; refine (HK.out _).mono ?_; rintro e w' ⟨rfl, rfl⟩))
        refine (pCopy_any p b s x y _ HD.out.pq).mono ?_
        rintro e x1 ⟨q, rfl, hq, bq, lq⟩
        simp only [World.size_alloc] at hq lq
        have hd1 := HD.out.step bq
        have hDo1 : Do14 wr.heap.size dk dt dc dz x1 := at_old bq (lt_of_block HO.out) HO.out
        have HQ := Lib.hid hq
        clear hq bq
        go_wp2_with fail
        refine (rpCopy_any m n s x y _ hd1.rq).mono ?_
        rintro e x2 ⟨q2, rfl, hq2, bq2, lq2⟩
        have hd2 := hd1.step bq2
        have hDo2 : Do14 wr.heap.size dk dt dc dz x2 := at_old bq2 (lt_of_block hDo1) hDo1
        obtain ⟨u1, u2, u3⟩ := hDo2.hold
        have np := lt_of_block hpw.pq.pc
        have nx := lt_of_block HQ.out.bk
        have hnew : PP q (wr.heap.size + 1) q2 x1.heap.size s x y s x y w.heap.size w x2 := ⟨HQ.out.step bq2, hq2, hd2.gr, by have := hpw.gr.2; omega, by have := hpw.gr.2; omega, by have := hpw.gr.2; omega, by have := hpw.gr.2; omega⟩
        have HN := Lib.hid hnew
        have H2 := Lib.hid hd2
        have HO2 := Lib.hid hDo2
        clear hnew hd1 hd2 hDo1 hDo2 bq2 hq2 HQ
        go_wp2_with (first | (go_at_call 94; refine (send_pp H2.out).mono ?_; rintro e wA ⟨b', rfl, hpA, cA⟩; have hDA : Do14 wr.heap.size dk dt dc dz wA := cA.at n1 HO2.out; obtain ⟨v1, v2, v3⟩ := hDA.hold; have hpB : PP q (wr.heap.size + 1) q2 x1.heap.size s x y s x y w.heap.size w wA := ⟨HN.out.pq.chx cA (by omega) (by omega), HN.out.rq.chx cA (by omega) (by omega), hpA.gr, HN.out.hp, HN.out.hb, HN.out.hm, HN.out.hn⟩) | (go_at_call 98; refine (same14_any _ _ _ _ _ _ _ _ _ _ hpB.pq hpB.rq).mono ?_; rintro e wE ⟨rfl, hbE⟩; have hpw3 := hpB.step hbE))
        go_roundw
        case rel => exact ⟨k + 1, _, _, _, _, _, _, _, by omega, by omega, rfl, rfl, by go_num, hpw3⟩
        case measure => simp [intOf]; omega
      · skip
        go_wp2_with (first | (go_at_call 57; refine (HK.out _).mono ?_; rintro e w' ⟨rfl, rfl⟩) | (go_at_call 98; refine (same14_any _ _ _ _ _ _ _ _ _ _ HD.out.pq HD.out.rq).mono ?_; rintro e wE ⟨rfl, hbE⟩; have hpw3 := HD.out.step hbE))
        go_roundw
        case rel => exact ⟨k + 1, _, _, _, _, _, _, _, by omega, by omega, rfl, rfl, by go_num, hpw3⟩
        case measure => simp [intOf]; omega
    · by_cases hk : k < len
      · have q1 : (k : Int) < (len : Int) := by omega
        have q2 : ¬ (k : Int) < 80 := by omega
        clear hlt
        go_wp2_with (first | (go_at_call 98; refine (same14_any _ _ _ _ _ _ _ _ _ _ hpw.pq hpw.rq).mono ?_; rintro e wE ⟨rfl, hbE⟩; have hpw3 := hpw.gr.step hbE) | (go_at_call 91; refine (works14_any hpw3).mono ?_; rintro e wz ⟨rfl, hz⟩))
        go_ret
        exact ⟨rfl, hz.1⟩
      · have q1 : ¬ (k : Int) < (len : Int) := by omega
        clear hlt
        go_wp2_with (first | (go_at_call 98; refine (same14_any _ _ _ _ _ _ _ _ _ _ hpw.pq hpw.rq).mono ?_; rintro e wE ⟨rfl, hbE⟩; have hpw3 := hpw.gr.step hbE) | (go_at_call 91; refine (works14_any hpw3).mono ?_; rintro e wz ⟨rfl, hz⟩))
        go_ret
        exact ⟨rfl, hz.1⟩

theorem pacePlays_row (w : World) (bu t : Int) (b off len cap : Nat) (zs : List Int) (hb : b < w.heap.size) (hc : ∀ j, j < len * 4 → w.cell? ⟨b, off + j, none⟩ = some (.int .i64 (zs.getD j 0))) (hl : len ≤ 9223372036854775807) (hz : ∀ n ∈ zs, okI n) :
    Calls Try.prog 22 #[.int .i64 bu, .int .i64 t, .slice (some ⟨b, off, none⟩) len cap] w fun e w' => e = .returned (.bool true) ∧ Below w.heap.size w w' := by
  by_cases hn : BS.newE bu t = 0
  · exact pacePlays_some w bu t hn b off len cap zs hb hc hl hz
  · exact pacePlays_bad w bu t hn _ len cap
theorem pacePlays_walk (w : World) (bu : Int) (_ : okI bu) (t : Int) (_ : okI t) (a : Option Addr) (len cap : Nat) (zs : List Int) (hr : Row 4 w a len zs) (hl : len ≤ 9223372036854775807) (hz : ∀ n ∈ zs, okI n) :
    Calls Try.prog 22 #[.int .i64 bu, .int .i64 t, .slice a len cap] w fun e w' => e = .returned (.bool true) ∧ Below w.heap.size w w' := by
  rcases hr with ⟨rfl, _⟩ | ⟨b, off, rfl, hb, _, hc⟩
  · by_cases hn : BS.newE bu t = 0
    · exact pacePlays_none w bu t hn a cap
    · exact pacePlays_bad w bu t hn a 0 cap
  · exact pacePlays_row w bu t b off len cap zs hb hc hl hz

end Go.Proofs.Ytcholjdbmmgakaa
