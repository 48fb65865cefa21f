/- The walk of BucketParts. -/
import Derived.Test.YtcholjdbmmgakaaBuckRate
import Derived.Sort.AtCall
namespace Go.Proofs.Ytcholjdbmmgakaa
open Go.RowKit Sat

/-- Behind k fillings the last of which was up to t. -/
def PtAt (s sa : BS) (x y : Int) (k : Nat) (t : Int) : Prop := (k = 0 ∧ sa = s ∧ t = s.t) ∨ (0 < k ∧ s.t ≤ t ∧ sa = s.fill t x y)
theorem ptAt_next {s sa : BS} (h : s.Ok) {x y : Int} {k : Nat} {t u : Int} (hp : PtAt s sa x y k t) (hm : may x y = true) (hu : t ≤ u) (hu1 : u ≤ 9007199254740991) :
    sa.fillE u x y = 0 ∧ sa.filled u x y = s.fill u x y ∧ PtAt s (s.fill u x y) x y (k + 1) u := by
  have h0 := h.t0
  rcases hp with ⟨_, rfl, rfl⟩ | ⟨hk, ht, rfl⟩
  · have e := BS.fillE_yes (s := sa) (isNum_yes (by omega) hu1) hm hu
    exact ⟨e, BS.filled_yes e, Or.inr ⟨by omega, hu, rfl⟩⟩
  · have ft := fill_t h ht (by omega) hm
    have e := BS.fillE_yes (s := s.fill t x y) (isNum_yes (by omega) hu1) hm (by omega)
    exact ⟨e, by rw [BS.filled_yes e, fill_fill h ht hu hu1 hm], Or.inr ⟨by omega, by omega, rfl⟩⟩
/-- In the end both stand alike. -/
theorem ptAt_end {s sa : BS} (h : s.Ok) (hr : s.r = 0) (h0 : s.num = 0 ∧ s.den = 0) {x y : Int} {k : Nat} {t : Int} (hp : PtAt s sa x y k t) (hm : may x y = true) (ht1 : t ≤ 9007199254740991) :
    s.fillE t x y = 0 ∧ s.filled t x y = s.fill t x y ∧ (s.fill t x y).n = sa.n ∧ (s.fill t x y).r = sa.r := by
  have t0 := h.t0
  obtain ⟨_, ⟨y0, _⟩⟩ := may_true hm
  rcases hp with ⟨_, rfl, rfl⟩ | ⟨hk, ht, rfl⟩
  · have e := BS.fillE_yes (s := sa) (isNum_yes (by omega) ht1) hm (Int.le_refl _)
    have f := fill_other h hm (by omega)
    exact ⟨e, BS.filled_yes e, by rw [f], by rw [f, hr]⟩
  · have e := BS.fillE_yes (s := s) (isNum_yes (by omega) ht1) hm ht
    exact ⟨e, BS.filled_yes e, rfl, rfl⟩

set_option maxRecDepth 100000 in
set_option maxHeartbeats 4000000 in
theorem bucketParts_none (w : World) (x0 x1 u0 u1 : Int) (a0 : Option Addr) (cap : Nat) (hx0 : okI x0) (hx1 : okI x1) (hu0 : okI u0) (hu1 : okI u1) :
    Calls Try.prog 16 #[.agg #[.int .i64 x0, .int .i64 x1], .agg #[.int .i64 u0, .int .i64 u1], .slice a0 0 cap] w fun e w' => e = .returned (.bool true) ∧ Below w.heap.size w w' := by
  obtain ⟨p0, p1⟩ := bring_bd x0 16777216 (by omega)
  obtain ⟨q0, q1⟩ := bring_bd x1 1073741824 (by omega)
  obtain ⟨n0, n1⟩ := bring_bd u0 1048576 (by omega)
  obtain ⟨k0, k1⟩ := bring_bd u1 (1 + u0 % 1048576 + 1) (by omega)
  have HU := Lib.hid (fun w => bring_any u0 1048576 w hu0 (by omega) (by omega))
  have HV := Lib.hid (fun w => bring_any u1 (1 + u0 % 1048576 + 1) w hu1 (by omega) (by omega))
  have HR := Lib.hid (fun w => rate_any x0 x1 w hx0 hx1)
  obtain ⟨X, hX⟩ : ∃ X, x0 % 16777216 = X := ⟨_, rfl⟩
  obtain ⟨Y, hY⟩ : ∃ Y, 1 + x1 % 1073741824 = Y := ⟨_, rfl⟩
  have y0 : 1 ≤ Y := by omega
  have y1 : Y ≤ 1073741824 := by omega
  obtain ⟨V, hV⟩ : ∃ V, u0 % 1048576 = V := ⟨_, rfl⟩
  rw [hV] at HU HV n0 n1 k0 k1
  obtain ⟨k, hk⟩ : ∃ k, u1 % (1 + V + 1) = k := ⟨_, rfl⟩
  rw [hX, hY] at HR
  rw [hX] at p0 p1
  rw [hk] at HV k0 k1
  clear hX hY hV hk q0 q1 hx0 hx1 hu0 hu1
  have hm : may X Y = true := may_yes p0 (by omega) y0 (by omega)
  have HM := Lib.hid hm
  clear hm
  have hn : BS.newE (1 + V) 5 = 0 := by unfold BS.newE; rw [if_pos ⟨⟨by omega, by omega⟩, rfl⟩]
  have HN := Lib.hid hn
  clear hn
  have te : BS.takeE (BS.new (1 + V) 5) k = 0 := BS.takeE_yes k0 (by show k ≤ 1 + V; omega)
  have ts : BS.taken (BS.new (1 + V) 5) k = ⟨1 + V, 1 + V - k, 0, 5, 0, 0⟩ := BS.taken_yes te
  have TE := Lib.hid te
  have TS := Lib.hid ts
  clear te ts
  have hxb := Lib.hid (show (w.alloc (.cells #[.int .i64 x0, .int .i64 x1] 33 (0, 0))).heap.size = w.heap.size + 1 by simp)
  go_enter Try.func16, Try.ntmps16
  go_wp2_with fail
  refine (HR.out _).mono ?_
  rintro e w1 ⟨rfl, b1⟩
  have g1 : Gr w.heap.size w w1 := (((Gr.refl w).alloc (.cells #[.int .i64 x0, .int .i64 x1] 33 (0, 0))).alloc (.cells #[.int .i64 u0, .int .i64 u1] 33 (0, 0))).step b1
  have hu := at_old b1 (by simp) (new_at (w.alloc (.cells #[.int .i64 x0, .int .i64 x1] 33 (0, 0))) (.cells #[.int .i64 u0, .int .i64 u1] 33 (0, 0)))
  rw [hxb.out] at hu
  have hs1 : w.heap.size + 1 < w1.heap.size := by have := b1.size; simp at this; omega
  have cu0 : w1.cell? ⟨w.heap.size + 1, 0, none⟩ = some (.int .i64 u0) := cellOf hu rfl
  have HB := Lib.hid hu
  clear hu b1
  go_wp2_with (first | (go_at_call 57; refine (HU.out _).mono ?_; rintro e w' ⟨rfl, rfl⟩))
  refine (new_bw (1 + V) 5 (g1.alloc (.cells #[.int .i64 X, .int .i64 Y] 60 (0, 0))) HN.out).mono ?_
  rintro e w2 ⟨rfl, ha, b2⟩
  simp only [World.size_alloc] at ha
  have hr2 : Rt w1.heap.size X Y w2 := at_old b2 (by simp) (new_at _ _)
  have hu2 := at_old b2 (lt_of_block (old_at _ HB.out)) (old_at _ HB.out)
  clear cu0 b2
  have HA := Lib.hid ha
  have HR2 := Lib.hid hr2
  have HB2 := Lib.hid hu2
  clear ha hr2 hu2
  go_wp2_with fail
  refine (new_bw (1 + V) 5 HA.out.gr HN.out).mono ?_
  rintro e w3 ⟨rfl, hb, b3⟩
  have ha3 := HA.out.step b3
  have hr3 : Rt w1.heap.size X Y w3 := at_old b3 (lt_of_block HR2.out) HR2.out
  have cu1 : w3.cell? ⟨w.heap.size + 1, 1, none⟩ = some (.int .i64 u1) := cellOf (at_old b3 (lt_of_block HB2.out) HB2.out) rfl
  have na : w1.heap.size ≠ w1.heap.size + 1 := by omega
  have nb : w1.heap.size ≠ w2.heap.size := Nat.ne_of_lt (lt_of_block HR2.out)
  have nab : w1.heap.size + 1 ≠ w2.heap.size := Nat.ne_of_lt HA.out.lt
  clear b3
  go_wp2_with (first | (go_at_call 57; refine (HV.out _).mono ?_; rintro e w' ⟨rfl, rfl⟩))
  refine (take_e 0 TE.out TS.out ha3).mono ?_
  rintro e w4 ⟨rfl, ha4, c4⟩
  have hb4 := hb.chx c4 ha3.ha (Ne.symm nab)
  have hr4 : Rt w1.heap.size X Y w4 := c4.at na hr3
  clear ha3 hr3 hb c4
  go_wp2_with fail
  refine (take_e 0 TE.out TS.out hb4).mono ?_
  rintro e w5 ⟨rfl, hb5, c5⟩
  have ha5 := ha4.chx c5 hb4.ha nab
  have hr5 : Rt w1.heap.size X Y w5 := c5.at nb hr4
  clear hb4 hr4 ha4 c5
  go_wp2_with fail
  have hok := hb5.ok
  go_loopw [14, 15] (fun t i wr => t = .int .i64 5 ∧ i = .int .i64 0 ∧ wr = w5) (fun _ _ _ => 0)
  case atStart => exact ⟨rfl, rfl, rfl⟩
  case round =>
    obtain ⟨rfl, rfl, rfl⟩ := hrel
    have hba := ha5
    have hbb := hb5
    have hrt := hr5
    obtain ⟨sa, hsa⟩ : ∃ sa : BS, (⟨1 + V, 1 + V - k, 0, 5, 0, 0⟩ : BS) = sa := ⟨_, rfl⟩
    have hpt : PtAt ⟨1 + V, 1 + V - k, 0, 5, 0, 0⟩ sa X Y 0 5 := Or.inl ⟨rfl, hsa.symm, rfl⟩
    rw [hsa] at hba
    obtain ⟨e1, e2, e3, e4⟩ := ptAt_end hok rfl ⟨rfl, rfl⟩ hpt HM.out (by omega)
    have k0' := cell_rt0 hrt
    have k1' := cell_rt1 hrt
    have HE := Lib.hid e1
    have HF := Lib.hid e2
    have HT := Lib.hid e3
    have HS := Lib.hid e4
    have HP := Lib.hid hrt
    clear e1 e2 e3 e4 hrt
    go_wp2_with (first | (go_at_call 76; refine (fill_e 0 HE.out HF.out hbb).mono ?_; rintro e w6 ⟨rfl, hb6, c6⟩; have ha6 := hba.chx c6 hbb.ha nab) | (go_at_call_has 77 (Value.pointer (some ⟨w1.heap.size + 1, 0, none⟩)); refine (tokens_e sa.n rfl ha6).mono ?_; rintro e w' ⟨rfl, rfl⟩) | (go_at_call_has 77 (Value.pointer (some ⟨w2.heap.size, 0, none⟩)); refine (tokens_e sa.n HT.out hb6).mono ?_; rintro e w' ⟨rfl, rfl⟩) | (go_at_call_has 78 (Value.pointer (some ⟨w1.heap.size + 1, 0, none⟩)); refine (rest_e sa.r rfl ha6).mono ?_; rintro e w' ⟨rfl, rfl⟩) | (go_at_call_has 78 (Value.pointer (some ⟨w2.heap.size, 0, none⟩)); refine (rest_e sa.r HS.out hb6).mono ?_; rintro e w' ⟨rfl, rfl⟩) | (go_at_call 79; refine (works13_any hb6.gr).mono ?_; rintro e w7 ⟨rfl, h7⟩))
    go_ret
    exact ⟨rfl, h7.1⟩

set_option maxRecDepth 100000 in
set_option maxHeartbeats 4000000 in
theorem bucketParts_some (w : World) (x0 x1 u0 u1 : Int) (b off len cap : Nat) (zs : List Int) (hb : b < w.heap.size) (hc : ∀ j, j < len → w.cell? ⟨b, off + j, none⟩ = some (.int .i64 (zs.getD j 0))) (hl : len ≤ 9223372036854775807) (hz : ∀ n ∈ zs, okI n) (hx0 : okI x0) (hx1 : okI x1) (hu0 : okI u0) (hu1 : okI u1) :
    Calls Try.prog 16 #[.agg #[.int .i64 x0, .int .i64 x1], .agg #[.int .i64 u0, .int .i64 u1], .slice (some ⟨b, off, none⟩) len cap] w fun e w' => e = .returned (.bool true) ∧ Below w.heap.size w w' := by
  have HC := Lib.hid hc; clear hc
  have HZ := Lib.hid hz; clear hz
  have hblt := hb
  clear hb
  obtain ⟨p0, p1⟩ := bring_bd x0 16777216 (by omega)
  obtain ⟨q0, q1⟩ := bring_bd x1 1073741824 (by omega)
  obtain ⟨n0, n1⟩ := bring_bd u0 1048576 (by omega)
  obtain ⟨k0, k1⟩ := bring_bd u1 (1 + u0 % 1048576 + 1) (by omega)
  have HU := Lib.hid (fun w => bring_any u0 1048576 w hu0 (by omega) (by omega))
  have HV := Lib.hid (fun w => bring_any u1 (1 + u0 % 1048576 + 1) w hu1 (by omega) (by omega))
  have HR := Lib.hid (fun w => rate_any x0 x1 w hx0 hx1)
  obtain ⟨X, hX⟩ : ∃ X, x0 % 16777216 = X := ⟨_, rfl⟩
  obtain ⟨Y, hY⟩ : ∃ Y, 1 + x1 % 1073741824 = Y := ⟨_, rfl⟩
  have y0 : 1 ≤ Y := by omega
  have y1 : Y ≤ 1073741824 := by omega
  obtain ⟨V, hV⟩ : ∃ V, u0 % 1048576 = V := ⟨_, rfl⟩
  rw [hV] at HU HV n0 n1 k0 k1
  obtain ⟨k, hk⟩ : ∃ k, u1 % (1 + V + 1) = k := ⟨_, rfl⟩
  rw [hX, hY] at HR
  rw [hX] at p0 p1
  rw [hk] at HV k0 k1
  clear hX hY hV hk q0 q1 hx0 hx1 hu0 hu1
  have hm : may X Y = true := may_yes p0 (by omega) y0 (by omega)
  have HM := Lib.hid hm
  clear hm
  have hn : BS.newE (1 + V) 5 = 0 := by unfold BS.newE; rw [if_pos ⟨⟨by omega, by omega⟩, rfl⟩]
  have HN := Lib.hid hn
  clear hn
  have te : BS.takeE (BS.new (1 + V) 5) k = 0 := BS.takeE_yes k0 (by show k ≤ 1 + V; omega)
  have ts : BS.taken (BS.new (1 + V) 5) k = ⟨1 + V, 1 + V - k, 0, 5, 0, 0⟩ := BS.taken_yes te
  have TE := Lib.hid te
  have TS := Lib.hid ts
  clear te ts
  have hxb := Lib.hid (show (w.alloc (.cells #[.int .i64 x0, .int .i64 x1] 33 (0, 0))).heap.size = w.heap.size + 1 by simp)
  go_enter Try.func16, Try.ntmps16
  go_wp2_with fail
  refine (HR.out _).mono ?_
  rintro e w1 ⟨rfl, b1⟩
  have g1 : Gr w.heap.size w w1 := (((Gr.refl w).alloc (.cells #[.int .i64 x0, .int .i64 x1] 33 (0, 0))).alloc (.cells #[.int .i64 u0, .int .i64 u1] 33 (0, 0))).step b1
  have hu := at_old b1 (by simp) (new_at (w.alloc (.cells #[.int .i64 x0, .int .i64 x1] 33 (0, 0))) (.cells #[.int .i64 u0, .int .i64 u1] 33 (0, 0)))
  rw [hxb.out] at hu
  have hs1 : w.heap.size + 1 < w1.heap.size := by have := b1.size; simp at this; omega
  have cu0 : w1.cell? ⟨w.heap.size + 1, 0, none⟩ = some (.int .i64 u0) := cellOf hu rfl
  have HB := Lib.hid hu
  clear hu b1
  go_wp2_with (first | (go_at_call 57; refine (HU.out _).mono ?_; rintro e w' ⟨rfl, rfl⟩))
  refine (new_bw (1 + V) 5 (g1.alloc (.cells #[.int .i64 X, .int .i64 Y] 60 (0, 0))) HN.out).mono ?_
  rintro e w2 ⟨rfl, ha, b2⟩
  simp only [World.size_alloc] at ha
  have hr2 : Rt w1.heap.size X Y w2 := at_old b2 (by simp) (new_at _ _)
  have hu2 := at_old b2 (lt_of_block (old_at _ HB.out)) (old_at _ HB.out)
  clear cu0 b2
  have HA := Lib.hid ha
  have HR2 := Lib.hid hr2
  have HB2 := Lib.hid hu2
  clear ha hr2 hu2
  go_wp2_with fail
  refine (new_bw (1 + V) 5 HA.out.gr HN.out).mono ?_
  rintro e w3 ⟨rfl, hb, b3⟩
  have ha3 := HA.out.step b3
  have hr3 : Rt w1.heap.size X Y w3 := at_old b3 (lt_of_block HR2.out) HR2.out
  have cu1 : w3.cell? ⟨w.heap.size + 1, 1, none⟩ = some (.int .i64 u1) := cellOf (at_old b3 (lt_of_block HB2.out) HB2.out) rfl
  have na : w1.heap.size ≠ w1.heap.size + 1 := by omega
  have nb : w1.heap.size ≠ w2.heap.size := Nat.ne_of_lt (lt_of_block HR2.out)
  have nab : w1.heap.size + 1 ≠ w2.heap.size := Nat.ne_of_lt HA.out.lt
  clear b3
  go_wp2_with (first | (go_at_call 57; refine (HV.out _).mono ?_; rintro e w' ⟨rfl, rfl⟩))
  refine (take_e 0 TE.out TS.out ha3).mono ?_
  rintro e w4 ⟨rfl, ha4, c4⟩
  have hb4 := hb.chx c4 ha3.ha (Ne.symm nab)
  have hr4 : Rt w1.heap.size X Y w4 := c4.at na hr3
  clear ha3 hr3 hb c4
  go_wp2_with fail
  refine (take_e 0 TE.out TS.out hb4).mono ?_
  rintro e w5 ⟨rfl, hb5, c5⟩
  have ha5 := ha4.chx c5 hb4.ha nab
  have hr5 : Rt w1.heap.size X Y w5 := c5.at nb hr4
  clear hb4 hr4 ha4 c5
  go_wp2_with fail
  have hok := hb5.ok
  have n5 := hok.n0
  go_loopw [14, 15] (fun t i wr => ∃ (k' : Nat) (T : Int) (sa : BS), k' ≤ len ∧ k' ≤ 30 ∧ t = .int .i64 T ∧ i = .int .i64 k' ∧ 5 ≤ T ∧ T ≤ 5 + k' * 17179869184 ∧ PtAt ⟨1 + V, 1 + V - k, 0, 5, 0, 0⟩ sa X Y k' T ∧ BW (w1.heap.size + 1) sa w.heap.size w wr ∧ BW w2.heap.size ⟨1 + V, 1 + V - k, 0, 5, 0, 0⟩ w.heap.size w wr ∧ Rt w1.heap.size X Y wr) (fun _ i _ => (30 - intOf i).toNat)
  case atStart => exact ⟨0, 5, _, by omega, by omega, rfl, rfl, by omega, by omega, Or.inl ⟨rfl, rfl, rfl⟩, ha5, hb5, hr5⟩
  case round =>
    obtain ⟨i, T, sa, i0, i1, rfl, rfl, T0, T1, hpt, hba, hbb, hrt⟩ := hrel
    by_cases hlt : i < len ∧ i < 30
    · obtain ⟨hi, hi30⟩ := hlt
      have hcell := (hba.gr.1.cell (p := ⟨b, off + i, none⟩) hblt).trans (HC.out i hi)
      have hv := okI_getD HZ.out i
      generalize zs.getD i 0 = v at hcell hv
      have c0 : (0 : Int) ≤ (i : Int) := by omega
      have c1 : (i : Int) < (len : Int) := by omega
      have c2 : (i : Int) < 30 := by omega
      obtain ⟨d0, d1⟩ := bring_bd v 17179869184 (by omega)
      have HD := Lib.hid (fun w => bring_any v 17179869184 w hv (by omega) (by omega))
      obtain ⟨D, hD⟩ : ∃ D, v % 17179869184 = D := ⟨_, rfl⟩
      rw [hD] at HD d0 d1
      clear hD hv
      obtain ⟨e1, e2, e3⟩ := ptAt_next hok hpt HM.out (show T ≤ T + D by omega) (by omega)
      have hS : BS.Ok (BS.fill ⟨1 + V, 1 + V - k, 0, 5, 0, 0⟩ (T + D) X Y) := BS.fill_ok hok (by omega) (by omega) HM.out
      have hlo := fill_more hok (show (5 : Int) ≤ T + D by omega) (by omega) HM.out
      have hbb2 := fill_b hok (show (5 : Int) ≤ T + D by omega) (by omega) HM.out
      have hrate := fill_rate hok (show (5 : Int) ≤ T + D by omega) (by omega) HM.out
      dsimp only at hlo hbb2
      generalize BS.fill ⟨1 + V, 1 + V - k, 0, 5, 0, 0⟩ (T + D) X Y = S at *
      have s0 := hS.n1; have s1 := hS.r0; have s2 := hS.r2
      have s3 : decide (1 + V < S.n) = false := decide_eq_false (by omega)
      have s4 : decide (S.n < 1 + V - k) = false := decide_eq_false (by omega)
      have sw : IntKind.i64.wrap (1 + V - k) = 1 + V - k := wrap_i64 _ (by omega) (by omega)
      have s5 : decide (S.r < 0) = false := decide_eq_false (by omega)
      have s6 : decide (Y ≤ S.r) = false := decide_eq_false (by omega)
      have m0 := cell_rt0 hrt
      have m1 := cell_rt1 hrt
      have HE := Lib.hid e1; have HF := Lib.hid e2; have HP := Lib.hid e3
      have HT := Lib.hid hrt
      clear e1 e2 e3 hpt hrt s0 s1 s2 hlo hbb2 hrate
      go_wp2_with (first | (go_at_call 57; refine (HD.out _).mono ?_; rintro e w' ⟨rfl, rfl⟩))
      go_region_held3 (fun w' => w'.cell? ⟨w1.heap.size, 0, none⟩ = some (.int .i64 X) ∧ w'.cell? ⟨w1.heap.size, 1, none⟩ = some (.int .i64 Y)) (first | exact ⟨by assumption, by assumption⟩ | go_simp) (first | (go_at_call 76; refine (fill_e 0 HE.out HF.out hba.drew).mono ?_; rintro e wA ⟨rfl, hA, cA⟩; have hB := hbb.drew.chx cA hba.ha (Ne.symm nab); have hR : Rt w1.heap.size X Y wA := cA.at na HT.out; have r0 := cell_rt0 hR; have r1 := cell_rt1 hR) | (go_at_call 77; refine (tokens_e S.n rfl hA).mono ?_; rintro e w' ⟨rfl, rfl⟩) | (go_at_call 78; refine (rest_e S.r rfl hA).mono ?_; rintro e w' ⟨rfl, rfl⟩))
      go_wp2_with fail
      go_roundw
      case rel => exact ⟨i + 1, T + D, S, by omega, by omega, rfl, by go_num, by omega, by push_cast; omega, HP.out, hA, hB, hR⟩
      case measure => simp [intOf]; omega
    · have HT := Lib.hid hrt
      by_cases hi : i < len
      · have c1 : (i : Int) < (len : Int) := by omega
        have c2 : ¬ (i : Int) < 30 := by omega
        clear hlt
        obtain ⟨e1, e2, e3, e4⟩ := ptAt_end hok rfl ⟨rfl, rfl⟩ hpt HM.out (by omega)
        have k0' := cell_rt0 hrt
        have k1' := cell_rt1 hrt
        have HE := Lib.hid e1
        have HF := Lib.hid e2
        have HT := Lib.hid e3
        have HS := Lib.hid e4
        have HP := Lib.hid hrt
        clear e1 e2 e3 e4 hrt
        go_wp2_with (first | (go_at_call 76; refine (fill_e 0 HE.out HF.out hbb).mono ?_; rintro e w6 ⟨rfl, hb6, c6⟩; have ha6 := hba.chx c6 hbb.ha nab) | (go_at_call_has 77 (Value.pointer (some ⟨w1.heap.size + 1, 0, none⟩)); refine (tokens_e sa.n rfl ha6).mono ?_; rintro e w' ⟨rfl, rfl⟩) | (go_at_call_has 77 (Value.pointer (some ⟨w2.heap.size, 0, none⟩)); refine (tokens_e sa.n HT.out hb6).mono ?_; rintro e w' ⟨rfl, rfl⟩) | (go_at_call_has 78 (Value.pointer (some ⟨w1.heap.size + 1, 0, none⟩)); refine (rest_e sa.r rfl ha6).mono ?_; rintro e w' ⟨rfl, rfl⟩) | (go_at_call_has 78 (Value.pointer (some ⟨w2.heap.size, 0, none⟩)); refine (rest_e sa.r HS.out hb6).mono ?_; rintro e w' ⟨rfl, rfl⟩) | (go_at_call 79; refine (works13_any hb6.gr).mono ?_; rintro e w7 ⟨rfl, h7⟩))
        go_ret
        exact ⟨rfl, h7.1⟩
      · have c1 : ¬ (i : Int) < (len : Int) := by omega
        clear hlt
        obtain ⟨e1, e2, e3, e4⟩ := ptAt_end hok rfl ⟨rfl, rfl⟩ hpt HM.out (by omega)
        have k0' := cell_rt0 hrt
        have k1' := cell_rt1 hrt
        have HE := Lib.hid e1
        have HF := Lib.hid e2
        have HT := Lib.hid e3
        have HS := Lib.hid e4
        have HP := Lib.hid hrt
        clear e1 e2 e3 e4 hrt
        go_wp2_with (first | (go_at_call 76; refine (fill_e 0 HE.out HF.out hbb).mono ?_; rintro e w6 ⟨rfl, hb6, c6⟩; have ha6 := hba.chx c6 hbb.ha nab) | (go_at_call_has 77 (Value.pointer (some ⟨w1.heap.size + 1, 0, none⟩)); refine (tokens_e sa.n rfl ha6).mono ?_; rintro e w' ⟨rfl, rfl⟩) | (go_at_call_has 77 (Value.pointer (some ⟨w2.heap.size, 0, none⟩)); refine (tokens_e sa.n HT.out hb6).mono ?_; rintro e w' ⟨rfl, rfl⟩) | (go_at_call_has 78 (Value.pointer (some ⟨w1.heap.size + 1, 0, none⟩)); refine (rest_e sa.r rfl ha6).mono ?_; rintro e w' ⟨rfl, rfl⟩) | (go_at_call_has 78 (Value.pointer (some ⟨w2.heap.size, 0, none⟩)); refine (rest_e sa.r HS.out hb6).mono ?_; rintro e w' ⟨rfl, rfl⟩) | (go_at_call 79; refine (works13_any hb6.gr).mono ?_; rintro e w7 ⟨rfl, h7⟩))
        go_ret
        exact ⟨rfl, h7.1⟩

theorem bucketParts_walk (w : World) (x0 x1 : Int) (hx0 : okI x0) (hx1 : okI x1) (u0 u1 : Int) (hu0 : okI u0) (hu1 : okI u1) (a : Option Addr) (len cap : Nat) (zs : List Int) (hr : Row 1 w a len zs) (hl : len ≤ 9223372036854775807) (hz : ∀ n ∈ zs, okI n) :
    Calls Try.prog 16 #[.agg #[.int .i64 x0, .int .i64 x1], .agg #[.int .i64 u0, .int .i64 u1], .slice a len cap] w fun e w' => e = .returned (.bool true) ∧ Below w.heap.size w w' := by
  rcases hr with ⟨rfl, _⟩ | ⟨b, off, rfl, hb, _, hc⟩
  · exact bucketParts_none w x0 x1 u0 u1 a cap hx0 hx1 hu0 hu1
  · exact bucketParts_some w x0 x1 u0 u1 b off len cap zs hb (fun j hj => hc j (by omega)) hl hz hx0 hx1 hu0 hu1

end Go.Proofs.Ytcholjdbmmgakaa
