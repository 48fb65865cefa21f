/- The walk of BucketWhen. -/
import Derived.Test.YtcholjdbmmgakaaBuckRate
import Derived.Sort.AtCall
namespace Go.Proofs.Ytcholjdbmmgakaa
open Go.RowKit Sat

/-- What the walk knows of a bucket that is filled at one rate alone. -/
structure WhAt (n : Int) (s : BS) (t : Int) : Prop where
  ok : s.Ok
  b : s.b = n
  t : s.t = t
theorem whAt_next {n : Int} {s : BS} {x y t u : Int} (h : WhAt n s t) (hm : may x y = true) (hu : t ≤ u) (hu1 : u ≤ 9007199254740991) :
    s.fillE u x y = 0 ∧ s.filled u x y = s.fill u x y ∧ WhAt n (s.fill u x y) u := by
  have h0 := h.ok.t0; have h1 := h.t
  have e := BS.fillE_yes (s := s) (isNum_yes (by omega) hu1) hm (by omega : s.t ≤ u)
  exact ⟨e, BS.filled_yes e, ⟨BS.fill_ok h.ok (by omega) hu1 hm, (fill_b h.ok (by omega) hu1 hm).trans h.b, fill_t h.ok (by omega) hu1 hm⟩⟩
/-- When: never, or a time. -/
theorem whAt_when {n : Int} {s : BS} {x y t k : Int} (h : WhAt n s t) (hm : may x y = true) (h0 : 0 ≤ k) (h1 : k ≤ n) :
    (s.when k x y = -1 ∧ s.n < k ∧ s.fillE 9007199254740991 x y = 0 ∧ (s.filled 9007199254740991 x y).n < k) ∨
    ∃ v, s.when k x y = v ∧ t ≤ v ∧ v ≤ 9007199254740991 ∧ s.fillE v x y = 0 ∧ k ≤ (s.filled v x y).n ∧ (v ≠ t → s.fillE (v - 1) x y = 0 ∧ (s.filled (v - 1) x y).n < k) := by
  have ht := h.t; have h2 := h.ok.t0; have h3 := h.ok.t1; have hb := h.b
  rcases when_spec h.ok (k := k) (x := x) (y := y) h0 (by omega) hm with ⟨g1, g2, g3⟩ | ⟨g1, g2, g3⟩
  · obtain ⟨e1, e2, _⟩ := whAt_next h hm (u := 9007199254740991) (by omega) (Int.le_refl _)
    exact Or.inl ⟨g1, g2, e1, by rw [e2]; exact g3 _ (by omega) (Int.le_refl _)⟩
  · refine Or.inr ⟨_, rfl, by omega, g2, ?_⟩
    obtain ⟨e1, e2, _⟩ := whAt_next h hm (u := s.when k x y) (by omega) g2
    refine ⟨e1, by rw [e2]; exact (g3 _ g1 g2).2 (Int.le_refl _), fun hne => ?_⟩
    obtain ⟨e3, e4, _⟩ := whAt_next h hm (u := s.when k x y - 1) (by omega) (by omega)
    refine ⟨e3, ?_⟩
    rw [e4]
    have := g3 (s.when k x y - 1) (by omega) (by omega)
    omega

set_option maxRecDepth 100000 in
set_option maxHeartbeats 4000000 in
theorem bucketWhen_none (w : World) (x0 x1 u0 u1 u2 : Int) (a0 : Option Addr) (cap : Nat) (hx0 : okI x0) (hx1 : okI x1) (hu0 : okI u0) (hu1 : okI u1) (hu2 : okI u2) :
    Calls Try.prog 19 #[.agg #[.int .i64 x0, .int .i64 x1], .agg #[.int .i64 u0, .int .i64 u1, .int .i64 u2], .slice a0 0 cap] w fun e w' => e = .returned (.bool true) ∧ Below w.heap.size w w' := by
  obtain ⟨p0, p1⟩ := bring_bd x0 16777216 (by omega)
  obtain ⟨q0, q1⟩ := bring_bd x1 1073741824 (by omega)
  obtain ⟨n0, n1⟩ := bring_bd u0 1073741824 (by omega)
  obtain ⟨k0, k1⟩ := bring_bd u1 (1 + u0 % 1073741824 + 1) (by omega)
  obtain ⟨j0, j1⟩ := bring_bd u2 (1 + u0 % 1073741824 + 1) (by omega)
  have HU := Lib.hid (fun w => bring_any u0 1073741824 w hu0 (by omega) (by omega))
  have HV := Lib.hid (fun w => bring_any u1 (1 + u0 % 1073741824 + 1) w hu1 (by omega) (by omega))
  have HW := Lib.hid (fun w => bring_any u2 (1 + u0 % 1073741824 + 1) w hu2 (by omega) (by omega))
  have HR := Lib.hid (fun w => rate_any x0 x1 w hx0 hx1)
  obtain ⟨X, hX⟩ : ∃ X, x0 % 16777216 = X := ⟨_, rfl⟩
  obtain ⟨Y, hY⟩ : ∃ Y, 1 + x1 % 1073741824 = Y := ⟨_, rfl⟩
  have y0 : 1 ≤ Y := by omega
  have y1 : Y ≤ 1073741824 := by omega
  obtain ⟨V, hV⟩ : ∃ V, u0 % 1073741824 = V := ⟨_, rfl⟩
  rw [hV] at HU HV HW n0 n1 k0 k1 j0 j1
  obtain ⟨k, hk⟩ : ∃ k, u1 % (1 + V + 1) = k := ⟨_, rfl⟩
  obtain ⟨j, hj⟩ : ∃ j, u2 % (1 + V + 1) = j := ⟨_, rfl⟩
  rw [hX, hY] at HR
  rw [hX] at p0 p1
  rw [hk] at HV k0 k1
  rw [hj] at HW j0 j1
  clear hX hY hV hk hj q0 q1 hx0 hx1 hu0 hu1 hu2
  have hm : may X Y = true := may_yes p0 (by omega) y0 (by omega)
  have HM := Lib.hid hm
  clear hm
  have hn : BS.newE (1 + V) 0 = 0 := by unfold BS.newE; rw [if_pos ⟨⟨by omega, by omega⟩, rfl⟩]
  have HN := Lib.hid hn
  clear hn
  have te : BS.takeE (BS.new (1 + V) 0) k = 0 := BS.takeE_yes k0 (by show k ≤ 1 + V; omega)
  have ts : BS.taken (BS.new (1 + V) 0) k = ⟨1 + V, 1 + V - k, 0, 0, 0, 0⟩ := BS.taken_yes te
  have TE := Lib.hid te
  have TS := Lib.hid ts
  clear te ts
  have hxb := Lib.hid (show (w.alloc (.cells #[.int .i64 x0, .int .i64 x1] 33 (0, 0))).heap.size = w.heap.size + 1 by simp)
  go_enter Try.func19, Try.ntmps19
  go_wp2_with fail
  refine (HR.out _).mono ?_
  rintro e w1 ⟨rfl, b1⟩
  have g1 : Gr w.heap.size w w1 := (((Gr.refl w).alloc (.cells #[.int .i64 x0, .int .i64 x1] 33 (0, 0))).alloc (.cells #[.int .i64 u0, .int .i64 u1, .int .i64 u2] 86 (0, 0))).step b1
  have hu := at_old b1 (by simp) (new_at (w.alloc (.cells #[.int .i64 x0, .int .i64 x1] 33 (0, 0))) (.cells #[.int .i64 u0, .int .i64 u1, .int .i64 u2] 86 (0, 0)))
  rw [hxb.out] at hu
  have hs1 : w.heap.size + 1 < w1.heap.size := lt_of_block hu
  have cu0 : w1.cell? ⟨w.heap.size + 1, 0, none⟩ = some (.int .i64 u0) := cellOf hu rfl
  have HB := Lib.hid hu
  clear hu b1
  go_wp2_with (first | (go_at_call 57; refine (HU.out _).mono ?_; rintro e w' ⟨rfl, rfl⟩))
  refine (new_bw (1 + V) 0 (g1.alloc (.cells #[.int .i64 X, .int .i64 Y] 60 (0, 0))) HN.out).mono ?_
  rintro e w2 ⟨rfl, ha, b2⟩
  simp only [World.size_alloc] at ha
  have hr2 : Rt w1.heap.size X Y w2 := at_old b2 (by simp) (new_at _ _)
  have hu2 : w2.heap[w.heap.size + 1]? = some (.cells #[.int .i64 u0, .int .i64 u1, .int .i64 u2] 86 (0, 0)) := at_old b2 (lt_of_block (old_at _ HB.out)) (old_at _ HB.out)
  clear cu0 b2
  have cu1 : w2.cell? ⟨w.heap.size + 1, 1, none⟩ = some (.int .i64 u1) := cellOf hu2 rfl
  have na : w1.heap.size ≠ w1.heap.size + 1 := by omega
  have nu : w.heap.size + 1 ≠ w1.heap.size + 1 := by omega
  go_wp2_with (first | (go_at_call 57; refine (HV.out _).mono ?_; rintro e w' ⟨rfl, rfl⟩))
  refine (take_e 0 TE.out TS.out ha).mono ?_
  rintro e w3 ⟨rfl, ha3, c3⟩
  have hr3 : Rt w1.heap.size X Y w3 := c3.at na hr2
  have hu3 : w3.heap[w.heap.size + 1]? = some (.cells #[.int .i64 u0, .int .i64 u1, .int .i64 u2] 86 (0, 0)) := c3.at nu hu2
  have wh : WhAt (1 + V) ⟨1 + V, 1 + V - k, 0, 0, 0, 0⟩ 0 := ⟨ha3.ok, rfl, rfl⟩
  clear ha hr2 hu2 c3 cu1
  go_wp2_with fail
  go_loopw [11, 12] (fun t i wr => t = .int .i64 0 ∧ i = .int .i64 0 ∧ wr = w3) (fun _ _ _ => 0)
  case atStart => exact ⟨rfl, rfl, rfl⟩
  case round =>
    obtain ⟨ht, hi, hw⟩ := hrel
    obtain ⟨T, hT⟩ : ∃ T : Int, T = 0 := ⟨_, rfl⟩
    obtain ⟨sa, hsa⟩ : ∃ sa : BS, (⟨1 + V, 1 + V - k, 0, 0, 0, 0⟩ : BS) = sa := ⟨_, rfl⟩
    rw [hsa] at ha3 wh
    rw [← hT] at wh ht
    subst ht hi
    have T0 : 0 ≤ T := by omega
    have T1 : T ≤ 0 + 5000 := by omega
    clear hT hsa
    have hba : BW (w1.heap.size + 1) sa w.heap.size w wr := by rw [hw]; exact ha3
    have hrt : Rt w1.heap.size X Y wr := by rw [hw]; exact hr3
    have hu : wr.heap[w.heap.size + 1]? = some (.cells #[.int .i64 u0, .int .i64 u1, .int .i64 u2] 86 (0, 0)) := by rw [hw]; exact hu3
    have hwh := wh
    clear hw ha3 hr3 hu3
    have cu2 : wr.cell? ⟨w.heap.size + 1, 2, none⟩ = some (.int .i64 u2) := cellOf hu rfl
    have kr0 := cell_rt0 hrt
    have kr1 := cell_rt1 hrt
    have HT := Lib.hid hrt
    clear hrt hu
    rcases whAt_when hwh HM.out j0 (show j ≤ 1 + V by omega) with ⟨e1, e2, e3, e4⟩ | ⟨v, e1, e2, e3, e4, e5, e6⟩
    · have E1 := Lib.hid e1; have E3 := Lib.hid e3
      obtain ⟨m, hm⟩ : ∃ m, (sa.filled 9007199254740991 X Y).n = m := ⟨_, rfl⟩
      rw [hm] at e4
      have HMM := Lib.hid hm
      clear e1 e3 hm
      go_wp2_with (first | (go_at_call 57; refine (HW.out _).mono ?_; rintro e w' ⟨rfl, rfl⟩))
      refine (when_e (-1) E1.out hba).mono ?_
      rintro e w6 ⟨rfl, hb6, c6⟩
      have hr6 : Rt w1.heap.size X Y w6 := c6.at na HT.out
      clear c6 kr0 kr1 cu2
      go_wp2_with fail
      refine (copy_bw hb6).mono ?_
      rintro e w7 ⟨rfl, hc7, b7⟩
      have hb7 := hb6.step b7
      have hr7 : Rt w1.heap.size X Y w7 := at_old b7 (lt_of_block hr6) hr6
      have k0' := cell_rt0 hr7
      have k1' := cell_rt1 hr7
      clear b7 hr6 hb6
      go_wp2_with (first | (go_at_call_has 77 (Value.pointer (some ⟨w1.heap.size + 1, 0, none⟩)); refine (tokens_e sa.n rfl hb7).mono ?_; rintro e w' ⟨rfl, rfl⟩) | (go_at_call 76; refine (fill_e 0 E3.out rfl hc7).mono ?_; rintro e w8 ⟨rfl, hc8, c8⟩) | (go_at_call 77; refine (tokens_e m HMM.out hc8).mono ?_; rintro e w' ⟨rfl, rfl⟩) | (go_at_call 79; refine (works13_any hc8.gr).mono ?_; rintro e w9 ⟨rfl, h9⟩))
      go_ret
      exact ⟨rfl, h9.1⟩
    · have E1 := Lib.hid e1; have E4 := Lib.hid e4
      obtain ⟨m, hm⟩ : ∃ m, (sa.filled v X Y).n = m := ⟨_, rfl⟩
      rw [hm] at e5
      have HMM := Lib.hid hm
      have hv1 : (v == -1) = false := beq_eq_false_iff_ne.2 (by omega)
      clear e1 e4 hm
      by_cases hne : v = T
      · clear e6
        subst hne
        go_wp2_with (first | (go_at_call 57; refine (HW.out _).mono ?_; rintro e w' ⟨rfl, rfl⟩))
        refine (when_e v E1.out hba).mono ?_
        rintro e w6 ⟨rfl, hb6, c6⟩
        have hr6 : Rt w1.heap.size X Y w6 := c6.at na HT.out
        clear c6 kr0 kr1 cu2
        go_wp2_with fail
        refine (copy_bw hb6).mono ?_
        rintro e w7 ⟨rfl, hc7, b7⟩
        have hb7 := hb6.step b7
        have hr7 : Rt w1.heap.size X Y w7 := at_old b7 (lt_of_block hr6) hr6
        clear b7 hr6 hb6
        go_wp2_with fail
        refine (copy_bw hb7).mono ?_
        rintro e w8 ⟨rfl, hd8, b8⟩
        have hc8 := hc7.step b8
        have hr8 : Rt w1.heap.size X Y w8 := at_old b8 (lt_of_block hr7) hr7
        have k0' := cell_rt0 hr8
        have k1' := cell_rt1 hr8
        clear b8 hr7 hb7 hc7
        go_wp2_with (first | (go_at_call 76; refine (fill_e 0 E4.out rfl hc8).mono ?_; rintro e w9 ⟨rfl, hc9, c9⟩) | (go_at_call 77; refine (tokens_e m HMM.out hc9).mono ?_; rintro e w' ⟨rfl, rfl⟩) | (go_at_call 79; refine (works13_any hc9.gr).mono ?_; rintro e w10 ⟨rfl, h10⟩))
        go_ret
        exact ⟨rfl, h10.1⟩
      · have hvT : (v == T) = false := beq_eq_false_iff_ne.2 hne
        obtain ⟨f1, f2⟩ := e6 hne
        obtain ⟨m', hm'⟩ : ∃ m, (sa.filled (v - 1) X Y).n = m := ⟨_, rfl⟩
        rw [hm'] at f2
        have HMM' := Lib.hid hm'
        have F1 := Lib.hid f1
        clear e6 f1 hm'
        go_wp2_with (first | (go_at_call 57; refine (HW.out _).mono ?_; rintro e w' ⟨rfl, rfl⟩))
        refine (when_e v E1.out hba).mono ?_
        rintro e w6 ⟨rfl, hb6, c6⟩
        have hr6 : Rt w1.heap.size X Y w6 := c6.at na HT.out
        clear c6 kr0 kr1 cu2
        go_wp2_with fail
        refine (copy_bw hb6).mono ?_
        rintro e w7 ⟨rfl, hc7, b7⟩
        have hb7 := hb6.step b7
        have hr7 : Rt w1.heap.size X Y w7 := at_old b7 (lt_of_block hr6) hr6
        have nr7 : w1.heap.size ≠ w6.heap.size := Nat.ne_of_lt (lt_of_block hr6)
        clear b7 hr6 hb6
        go_wp2_with fail
        refine (copy_bw hb7).mono ?_
        rintro e w8 ⟨rfl, hd8, b8⟩
        have hc8 := hc7.step b8
        have hr8 : Rt w1.heap.size X Y w8 := at_old b8 (lt_of_block hr7) hr7
        have k0' := cell_rt0 hr8
        have k1' := cell_rt1 hr8
        have nd : w7.heap.size ≠ w6.heap.size := Ne.symm (Nat.ne_of_lt hc7.lt)
        clear b8 hr7 hb7 hc7
        go_wp2_with (first | (go_at_call_has 76 (Value.pointer (some ⟨w6.heap.size, 0, none⟩)); refine (fill_e 0 E4.out rfl hc8).mono ?_; rintro e w9 ⟨rfl, hc9, c9⟩; have hd9 := hd8.chx c9 hc8.ha nd; have hr9 : Rt w1.heap.size X Y w9 := c9.at nr7 hr8; have k0'' := cell_rt0 hr9; have k1'' := cell_rt1 hr9) | (go_at_call_has 77 (Value.pointer (some ⟨w6.heap.size, 0, none⟩)); refine (tokens_e m HMM.out hc9).mono ?_; rintro e w' ⟨rfl, rfl⟩) | (go_at_call_has 76 (Value.pointer (some ⟨w7.heap.size, 0, none⟩)); refine (fill_e 0 F1.out rfl hd9).mono ?_; rintro e w10 ⟨rfl, hd10, c10⟩) | (go_at_call_has 77 (Value.pointer (some ⟨w7.heap.size, 0, none⟩)); refine (tokens_e m' HMM'.out hd10).mono ?_; rintro e w' ⟨rfl, rfl⟩) | (go_at_call 79; refine (works13_any hd10.gr).mono ?_; rintro e w11 ⟨rfl, h11⟩))
        go_ret
        exact ⟨rfl, h11.1⟩

set_option maxRecDepth 100000 in
set_option maxHeartbeats 8000000 in
theorem bucketWhen_some (w : World) (x0 x1 u0 u1 u2 : Int) (b off len cap : Nat) (zs : List Int) (hb : b < w.heap.size) (hc : ∀ j, j < len → w.cell? ⟨b, off + j, none⟩ = some (.int .i64 (zs.getD j 0))) (hl : len ≤ 9223372036854775807) (hz : ∀ n ∈ zs, okI n) (hx0 : okI x0) (hx1 : okI x1) (hu0 : okI u0) (hu1 : okI u1) (hu2 : okI u2) :
    Calls Try.prog 19 #[.agg #[.int .i64 x0, .int .i64 x1], .agg #[.int .i64 u0, .int .i64 u1, .int .i64 u2], .slice (some ⟨b, off, none⟩) len cap] w fun e w' => e = .returned (.bool true) ∧ Below w.heap.size w w' := by
  have HC := Lib.hid hc; clear hc
  have HZ := Lib.hid hz; clear hz
  have hblt := hb
  clear hb
  obtain ⟨p0, p1⟩ := bring_bd x0 16777216 (by omega)
  obtain ⟨q0, q1⟩ := bring_bd x1 1073741824 (by omega)
  obtain ⟨n0, n1⟩ := bring_bd u0 1073741824 (by omega)
  obtain ⟨k0, k1⟩ := bring_bd u1 (1 + u0 % 1073741824 + 1) (by omega)
  obtain ⟨j0, j1⟩ := bring_bd u2 (1 + u0 % 1073741824 + 1) (by omega)
  have HU := Lib.hid (fun w => bring_any u0 1073741824 w hu0 (by omega) (by omega))
  have HV := Lib.hid (fun w => bring_any u1 (1 + u0 % 1073741824 + 1) w hu1 (by omega) (by omega))
  have HW := Lib.hid (fun w => bring_any u2 (1 + u0 % 1073741824 + 1) w hu2 (by omega) (by omega))
  have HR := Lib.hid (fun w => rate_any x0 x1 w hx0 hx1)
  obtain ⟨X, hX⟩ : ∃ X, x0 % 16777216 = X := ⟨_, rfl⟩
  obtain ⟨Y, hY⟩ : ∃ Y, 1 + x1 % 1073741824 = Y := ⟨_, rfl⟩
  have y0 : 1 ≤ Y := by omega
  have y1 : Y ≤ 1073741824 := by omega
  obtain ⟨V, hV⟩ : ∃ V, u0 % 1073741824 = V := ⟨_, rfl⟩
  rw [hV] at HU HV HW n0 n1 k0 k1 j0 j1
  obtain ⟨k, hk⟩ : ∃ k, u1 % (1 + V + 1) = k := ⟨_, rfl⟩
  obtain ⟨j, hj⟩ : ∃ j, u2 % (1 + V + 1) = j := ⟨_, rfl⟩
  rw [hX, hY] at HR
  rw [hX] at p0 p1
  rw [hk] at HV k0 k1
  rw [hj] at HW j0 j1
  clear hX hY hV hk hj q0 q1 hx0 hx1 hu0 hu1 hu2
  have hm : may X Y = true := may_yes p0 (by omega) y0 (by omega)
  have HM := Lib.hid hm
  clear hm
  have hn : BS.newE (1 + V) 0 = 0 := by unfold BS.newE; rw [if_pos ⟨⟨by omega, by omega⟩, rfl⟩]
  have HN := Lib.hid hn
  clear hn
  have te : BS.takeE (BS.new (1 + V) 0) k = 0 := BS.takeE_yes k0 (by show k ≤ 1 + V; omega)
  have ts : BS.taken (BS.new (1 + V) 0) k = ⟨1 + V, 1 + V - k, 0, 0, 0, 0⟩ := BS.taken_yes te
  have TE := Lib.hid te
  have TS := Lib.hid ts
  clear te ts
  have hxb := Lib.hid (show (w.alloc (.cells #[.int .i64 x0, .int .i64 x1] 33 (0, 0))).heap.size = w.heap.size + 1 by simp)
  go_enter Try.func19, Try.ntmps19
  go_wp2_with fail
  refine (HR.out _).mono ?_
  rintro e w1 ⟨rfl, b1⟩
  have g1 : Gr w.heap.size w w1 := (((Gr.refl w).alloc (.cells #[.int .i64 x0, .int .i64 x1] 33 (0, 0))).alloc (.cells #[.int .i64 u0, .int .i64 u1, .int .i64 u2] 86 (0, 0))).step b1
  have hu := at_old b1 (by simp) (new_at (w.alloc (.cells #[.int .i64 x0, .int .i64 x1] 33 (0, 0))) (.cells #[.int .i64 u0, .int .i64 u1, .int .i64 u2] 86 (0, 0)))
  rw [hxb.out] at hu
  have hs1 : w.heap.size + 1 < w1.heap.size := lt_of_block hu
  have cu0 : w1.cell? ⟨w.heap.size + 1, 0, none⟩ = some (.int .i64 u0) := cellOf hu rfl
  have HB := Lib.hid hu
  clear hu b1
  go_wp2_with (first | (go_at_call 57; refine (HU.out _).mono ?_; rintro e w' ⟨rfl, rfl⟩))
  refine (new_bw (1 + V) 0 (g1.alloc (.cells #[.int .i64 X, .int .i64 Y] 60 (0, 0))) HN.out).mono ?_
  rintro e w2 ⟨rfl, ha, b2⟩
  simp only [World.size_alloc] at ha
  have hr2 : Rt w1.heap.size X Y w2 := at_old b2 (by simp) (new_at _ _)
  have hu2 : w2.heap[w.heap.size + 1]? = some (.cells #[.int .i64 u0, .int .i64 u1, .int .i64 u2] 86 (0, 0)) := at_old b2 (lt_of_block (old_at _ HB.out)) (old_at _ HB.out)
  clear cu0 b2
  have cu1 : w2.cell? ⟨w.heap.size + 1, 1, none⟩ = some (.int .i64 u1) := cellOf hu2 rfl
  have na : w1.heap.size ≠ w1.heap.size + 1 := by omega
  have nu : w.heap.size + 1 ≠ w1.heap.size + 1 := by omega
  go_wp2_with (first | (go_at_call 57; refine (HV.out _).mono ?_; rintro e w' ⟨rfl, rfl⟩))
  refine (take_e 0 TE.out TS.out ha).mono ?_
  rintro e w3 ⟨rfl, ha3, c3⟩
  have hr3 : Rt w1.heap.size X Y w3 := c3.at na hr2
  have hu3 : w3.heap[w.heap.size + 1]? = some (.cells #[.int .i64 u0, .int .i64 u1, .int .i64 u2] 86 (0, 0)) := c3.at nu hu2
  have wh : WhAt (1 + V) ⟨1 + V, 1 + V - k, 0, 0, 0, 0⟩ 0 := ⟨ha3.ok, rfl, rfl⟩
  clear ha hr2 hu2 c3 cu1
  go_wp2_with fail
  go_loopw [11, 12] (fun t i wr => ∃ (k' : Nat) (T : Int) (sa : BS), k' ≤ len ∧ k' ≤ 5 ∧ t = .int .i64 T ∧ i = .int .i64 k' ∧ 0 ≤ T ∧ T ≤ k' * 1000 ∧ WhAt (1 + V) sa T ∧ BW (w1.heap.size + 1) sa w.heap.size w wr ∧ Rt w1.heap.size X Y wr ∧ wr.heap[w.heap.size + 1]? = some (.cells #[.int .i64 u0, .int .i64 u1, .int .i64 u2] 86 (0, 0))) (fun _ i _ => (5 - intOf i).toNat)
  case atStart => exact ⟨0, 0, _, by omega, by omega, rfl, rfl, by omega, by omega, wh, ha3, hr3, hu3⟩
  case round =>
    obtain ⟨i, T, sa, i0, i1, rfl, rfl, T0, T1, hwh, hba, hrt, hu⟩ := hrel
    clear wh ha3 hr3 hu3
    by_cases hlt : i < len ∧ i < 5
    · obtain ⟨hi, hi5⟩ := hlt
      have hcell := (hba.gr.1.cell (p := ⟨b, off + i, none⟩) hblt).trans (HC.out i hi)
      have hv := okI_getD HZ.out i
      generalize zs.getD i 0 = v at hcell hv
      have c0 : (0 : Int) ≤ (i : Int) := by omega
      have c1 : (i : Int) < (len : Int) := by omega
      have c2 : (i : Int) < 5 := by omega
      obtain ⟨d0, d1⟩ := bring_bd v 1000 (by omega)
      have HD := Lib.hid (fun w => bring_any v 1000 w hv (by omega) (by omega))
      obtain ⟨D, hD⟩ : ∃ D, v % 1000 = D := ⟨_, rfl⟩
      rw [hD] at HD d0 d1
      clear hD hv
      obtain ⟨e1, e2, e3⟩ := whAt_next hwh HM.out (show T ≤ T + D by omega) (by omega)
      have m0 := cell_rt0 hrt
      have m1 := cell_rt1 hrt
      have HE := Lib.hid e1; have HF := Lib.hid e2; have HP := Lib.hid e3
      have HT := Lib.hid hrt
      have HUU := Lib.hid hu
      clear e1 e2 e3 hwh hrt hu
      go_wp2_with (first | (go_at_call 57; refine (HD.out _).mono ?_; rintro e w' ⟨rfl, rfl⟩) | (go_at_call 76; refine (fill_e 0 HE.out HF.out hba).mono ?_; rintro e wA ⟨rfl, hA, cA⟩))
      go_roundw
      case rel => exact ⟨i + 1, T + D, _, by omega, by omega, rfl, by go_num, by omega, by push_cast; omega, HP.out, hA, cA.at na HT.out, cA.at nu HUU.out⟩
      case measure => simp [intOf]; omega
    · have T2 : T ≤ 0 + 5000 := by omega
      by_cases hi : i < len
      · have c1 : (i : Int) < (len : Int) := by omega
        have c2 : ¬ (i : Int) < 5 := by omega
        clear hlt
        have cu2 : wr.cell? ⟨w.heap.size + 1, 2, none⟩ = some (.int .i64 u2) := cellOf hu rfl
        have kr0 := cell_rt0 hrt
        have kr1 := cell_rt1 hrt
        have HT := Lib.hid hrt
        clear hrt hu
        rcases whAt_when hwh HM.out j0 (show j ≤ 1 + V by omega) with ⟨e1, e2, e3, e4⟩ | ⟨v, e1, e2, e3, e4, e5, e6⟩
        · have E1 := Lib.hid e1; have E3 := Lib.hid e3
          obtain ⟨m, hm⟩ : ∃ m, (sa.filled 9007199254740991 X Y).n = m := ⟨_, rfl⟩
          rw [hm] at e4
          have HMM := Lib.hid hm
          clear e1 e3 hm
          go_wp2_with (first | (go_at_call 57; refine (HW.out _).mono ?_; rintro e w' ⟨rfl, rfl⟩))
          refine (when_e (-1) E1.out hba).mono ?_
          rintro e w6 ⟨rfl, hb6, c6⟩
          have hr6 : Rt w1.heap.size X Y w6 := c6.at na HT.out
          clear c6 kr0 kr1 cu2
          go_wp2_with fail
          refine (copy_bw hb6).mono ?_
          rintro e w7 ⟨rfl, hc7, b7⟩
          have hb7 := hb6.step b7
          have hr7 : Rt w1.heap.size X Y w7 := at_old b7 (lt_of_block hr6) hr6
          have k0' := cell_rt0 hr7
          have k1' := cell_rt1 hr7
          clear b7 hr6 hb6
          go_wp2_with (first | (go_at_call_has 77 (Value.pointer (some ⟨w1.heap.size + 1, 0, none⟩)); refine (tokens_e sa.n rfl hb7).mono ?_; rintro e w' ⟨rfl, rfl⟩) | (go_at_call 76; refine (fill_e 0 E3.out rfl hc7).mono ?_; rintro e w8 ⟨rfl, hc8, c8⟩) | (go_at_call 77; refine (tokens_e m HMM.out hc8).mono ?_; rintro e w' ⟨rfl, rfl⟩) | (go_at_call 79; refine (works13_any hc8.gr).mono ?_; rintro e w9 ⟨rfl, h9⟩))
          go_ret
          exact ⟨rfl, h9.1⟩
        · have E1 := Lib.hid e1; have E4 := Lib.hid e4
          obtain ⟨m, hm⟩ : ∃ m, (sa.filled v X Y).n = m := ⟨_, rfl⟩
          rw [hm] at e5
          have HMM := Lib.hid hm
          have hv1 : (v == -1) = false := beq_eq_false_iff_ne.2 (by omega)
          clear e1 e4 hm
          by_cases hne : v = T
          · clear e6
            subst hne
            go_wp2_with (first | (go_at_call 57; refine (HW.out _).mono ?_; rintro e w' ⟨rfl, rfl⟩))
            refine (when_e v E1.out hba).mono ?_
            rintro e w6 ⟨rfl, hb6, c6⟩
            have hr6 : Rt w1.heap.size X Y w6 := c6.at na HT.out
            clear c6 kr0 kr1 cu2
            go_wp2_with fail
            refine (copy_bw hb6).mono ?_
            rintro e w7 ⟨rfl, hc7, b7⟩
            have hb7 := hb6.step b7
            have hr7 : Rt w1.heap.size X Y w7 := at_old b7 (lt_of_block hr6) hr6
            clear b7 hr6 hb6
            go_wp2_with fail
            refine (copy_bw hb7).mono ?_
            rintro e w8 ⟨rfl, hd8, b8⟩
            have hc8 := hc7.step b8
            have hr8 : Rt w1.heap.size X Y w8 := at_old b8 (lt_of_block hr7) hr7
            have k0' := cell_rt0 hr8
            have k1' := cell_rt1 hr8
            clear b8 hr7 hb7 hc7
            go_wp2_with (first | (go_at_call 76; refine (fill_e 0 E4.out rfl hc8).mono ?_; rintro e w9 ⟨rfl, hc9, c9⟩) | (go_at_call 77; refine (tokens_e m HMM.out hc9).mono ?_; rintro e w' ⟨rfl, rfl⟩) | (go_at_call 79; refine (works13_any hc9.gr).mono ?_; rintro e w10 ⟨rfl, h10⟩))
            go_ret
            exact ⟨rfl, h10.1⟩
          · have hvT : (v == T) = false := beq_eq_false_iff_ne.2 hne
            obtain ⟨f1, f2⟩ := e6 hne
            obtain ⟨m', hm'⟩ : ∃ m, (sa.filled (v - 1) X Y).n = m := ⟨_, rfl⟩
            rw [hm'] at f2
            have HMM' := Lib.hid hm'
            have F1 := Lib.hid f1
            clear e6 f1 hm'
            go_wp2_with (first | (go_at_call 57; refine (HW.out _).mono ?_; rintro e w' ⟨rfl, rfl⟩))
            refine (when_e v E1.out hba).mono ?_
            rintro e w6 ⟨rfl, hb6, c6⟩
            have hr6 : Rt w1.heap.size X Y w6 := c6.at na HT.out
            clear c6 kr0 kr1 cu2
            go_wp2_with fail
            refine (copy_bw hb6).mono ?_
            rintro e w7 ⟨rfl, hc7, b7⟩
            have hb7 := hb6.step b7
            have hr7 : Rt w1.heap.size X Y w7 := at_old b7 (lt_of_block hr6) hr6
            have nr7 : w1.heap.size ≠ w6.heap.size := Nat.ne_of_lt (lt_of_block hr6)
            clear b7 hr6 hb6
            go_wp2_with fail
            refine (copy_bw hb7).mono ?_
            rintro e w8 ⟨rfl, hd8, b8⟩
            have hc8 := hc7.step b8
            have hr8 : Rt w1.heap.size X Y w8 := at_old b8 (lt_of_block hr7) hr7
            have k0' := cell_rt0 hr8
            have k1' := cell_rt1 hr8
            have nd : w7.heap.size ≠ w6.heap.size := Ne.symm (Nat.ne_of_lt hc7.lt)
            clear b8 hr7 hb7 hc7
            go_wp2_with (first | (go_at_call_has 76 (Value.pointer (some ⟨w6.heap.size, 0, none⟩)); refine (fill_e 0 E4.out rfl hc8).mono ?_; rintro e w9 ⟨rfl, hc9, c9⟩; have hd9 := hd8.chx c9 hc8.ha nd; have hr9 : Rt w1.heap.size X Y w9 := c9.at nr7 hr8; have k0'' := cell_rt0 hr9; have k1'' := cell_rt1 hr9) | (go_at_call_has 77 (Value.pointer (some ⟨w6.heap.size, 0, none⟩)); refine (tokens_e m HMM.out hc9).mono ?_; rintro e w' ⟨rfl, rfl⟩) | (go_at_call_has 76 (Value.pointer (some ⟨w7.heap.size, 0, none⟩)); refine (fill_e 0 F1.out rfl hd9).mono ?_; rintro e w10 ⟨rfl, hd10, c10⟩) | (go_at_call_has 77 (Value.pointer (some ⟨w7.heap.size, 0, none⟩)); refine (tokens_e m' HMM'.out hd10).mono ?_; rintro e w' ⟨rfl, rfl⟩) | (go_at_call 79; refine (works13_any hd10.gr).mono ?_; rintro e w11 ⟨rfl, h11⟩))
            go_ret
            exact ⟨rfl, h11.1⟩
      · have c1 : ¬ (i : Int) < (len : Int) := by omega
        clear hlt
        have cu2 : wr.cell? ⟨w.heap.size + 1, 2, none⟩ = some (.int .i64 u2) := cellOf hu rfl
        have kr0 := cell_rt0 hrt
        have kr1 := cell_rt1 hrt
        have HT := Lib.hid hrt
        clear hrt hu
        rcases whAt_when hwh HM.out j0 (show j ≤ 1 + V by omega) with ⟨e1, e2, e3, e4⟩ | ⟨v, e1, e2, e3, e4, e5, e6⟩
        · have E1 := Lib.hid e1; have E3 := Lib.hid e3
          obtain ⟨m, hm⟩ : ∃ m, (sa.filled 9007199254740991 X Y).n = m := ⟨_, rfl⟩
          rw [hm] at e4
          have HMM := Lib.hid hm
          clear e1 e3 hm
          go_wp2_with (first | (go_at_call 57; refine (HW.out _).mono ?_; rintro e w' ⟨rfl, rfl⟩))
          refine (when_e (-1) E1.out hba).mono ?_
          rintro e w6 ⟨rfl, hb6, c6⟩
          have hr6 : Rt w1.heap.size X Y w6 := c6.at na HT.out
          clear c6 kr0 kr1 cu2
          go_wp2_with fail
          refine (copy_bw hb6).mono ?_
          rintro e w7 ⟨rfl, hc7, b7⟩
          have hb7 := hb6.step b7
          have hr7 : Rt w1.heap.size X Y w7 := at_old b7 (lt_of_block hr6) hr6
          have k0' := cell_rt0 hr7
          have k1' := cell_rt1 hr7
          clear b7 hr6 hb6
          go_wp2_with (first | (go_at_call_has 77 (Value.pointer (some ⟨w1.heap.size + 1, 0, none⟩)); refine (tokens_e sa.n rfl hb7).mono ?_; rintro e w' ⟨rfl, rfl⟩) | (go_at_call 76; refine (fill_e 0 E3.out rfl hc7).mono ?_; rintro e w8 ⟨rfl, hc8, c8⟩) | (go_at_call 77; refine (tokens_e m HMM.out hc8).mono ?_; rintro e w' ⟨rfl, rfl⟩) | (go_at_call 79; refine (works13_any hc8.gr).mono ?_; rintro e w9 ⟨rfl, h9⟩))
          go_ret
          exact ⟨rfl, h9.1⟩
        · have E1 := Lib.hid e1; have E4 := Lib.hid e4
          obtain ⟨m, hm⟩ : ∃ m, (sa.filled v X Y).n = m := ⟨_, rfl⟩
          rw [hm] at e5
          have HMM := Lib.hid hm
          have hv1 : (v == -1) = false := beq_eq_false_iff_ne.2 (by omega)
          clear e1 e4 hm
          by_cases hne : v = T
          · clear e6
            subst hne
            go_wp2_with (first | (go_at_call 57; refine (HW.out _).mono ?_; rintro e w' ⟨rfl, rfl⟩))
            refine (when_e v E1.out hba).mono ?_
            rintro e w6 ⟨rfl, hb6, c6⟩
            have hr6 : Rt w1.heap.size X Y w6 := c6.at na HT.out
            clear c6 kr0 kr1 cu2
            go_wp2_with fail
            refine (copy_bw hb6).mono ?_
            rintro e w7 ⟨rfl, hc7, b7⟩
            have hb7 := hb6.step b7
            have hr7 : Rt w1.heap.size X Y w7 := at_old b7 (lt_of_block hr6) hr6
            clear b7 hr6 hb6
            go_wp2_with fail
            refine (copy_bw hb7).mono ?_
            rintro e w8 ⟨rfl, hd8, b8⟩
            have hc8 := hc7.step b8
            have hr8 : Rt w1.heap.size X Y w8 := at_old b8 (lt_of_block hr7) hr7
            have k0' := cell_rt0 hr8
            have k1' := cell_rt1 hr8
            clear b8 hr7 hb7 hc7
            go_wp2_with (first | (go_at_call 76; refine (fill_e 0 E4.out rfl hc8).mono ?_; rintro e w9 ⟨rfl, hc9, c9⟩) | (go_at_call 77; refine (tokens_e m HMM.out hc9).mono ?_; rintro e w' ⟨rfl, rfl⟩) | (go_at_call 79; refine (works13_any hc9.gr).mono ?_; rintro e w10 ⟨rfl, h10⟩))
            go_ret
            exact ⟨rfl, h10.1⟩
          · have hvT : (v == T) = false := beq_eq_false_iff_ne.2 hne
            obtain ⟨f1, f2⟩ := e6 hne
            obtain ⟨m', hm'⟩ : ∃ m, (sa.filled (v - 1) X Y).n = m := ⟨_, rfl⟩
            rw [hm'] at f2
            have HMM' := Lib.hid hm'
            have F1 := Lib.hid f1
            clear e6 f1 hm'
            go_wp2_with (first | (go_at_call 57; refine (HW.out _).mono ?_; rintro e w' ⟨rfl, rfl⟩))
            refine (when_e v E1.out hba).mono ?_
            rintro e w6 ⟨rfl, hb6, c6⟩
            have hr6 : Rt w1.heap.size X Y w6 := c6.at na HT.out
            clear c6 kr0 kr1 cu2
            go_wp2_with fail
            refine (copy_bw hb6).mono ?_
            rintro e w7 ⟨rfl, hc7, b7⟩
            have hb7 := hb6.step b7
            have hr7 : Rt w1.heap.size X Y w7 := at_old b7 (lt_of_block hr6) hr6
            have nr7 : w1.heap.size ≠ w6.heap.size := Nat.ne_of_lt (lt_of_block hr6)
            clear b7 hr6 hb6
            go_wp2_with fail
            refine (copy_bw hb7).mono ?_
            rintro e w8 ⟨rfl, hd8, b8⟩
            have hc8 := hc7.step b8
            have hr8 : Rt w1.heap.size X Y w8 := at_old b8 (lt_of_block hr7) hr7
            have k0' := cell_rt0 hr8
            have k1' := cell_rt1 hr8
            have nd : w7.heap.size ≠ w6.heap.size := Ne.symm (Nat.ne_of_lt hc7.lt)
            clear b8 hr7 hb7 hc7
            go_wp2_with (first | (go_at_call_has 76 (Value.pointer (some ⟨w6.heap.size, 0, none⟩)); refine (fill_e 0 E4.out rfl hc8).mono ?_; rintro e w9 ⟨rfl, hc9, c9⟩; have hd9 := hd8.chx c9 hc8.ha nd; have hr9 : Rt w1.heap.size X Y w9 := c9.at nr7 hr8; have k0'' := cell_rt0 hr9; have k1'' := cell_rt1 hr9) | (go_at_call_has 77 (Value.pointer (some ⟨w6.heap.size, 0, none⟩)); refine (tokens_e m HMM.out hc9).mono ?_; rintro e w' ⟨rfl, rfl⟩) | (go_at_call_has 76 (Value.pointer (some ⟨w7.heap.size, 0, none⟩)); refine (fill_e 0 F1.out rfl hd9).mono ?_; rintro e w10 ⟨rfl, hd10, c10⟩) | (go_at_call_has 77 (Value.pointer (some ⟨w7.heap.size, 0, none⟩)); refine (tokens_e m' HMM'.out hd10).mono ?_; rintro e w' ⟨rfl, rfl⟩) | (go_at_call 79; refine (works13_any hd10.gr).mono ?_; rintro e w11 ⟨rfl, h11⟩))
            go_ret
            exact ⟨rfl, h11.1⟩

theorem bucketWhen_walk (w : World) (x0 x1 : Int) (hx0 : okI x0) (hx1 : okI x1) (u0 u1 u2 : Int) (hu0 : okI u0) (hu1 : okI u1) (hu2 : okI u2) (a : Option Addr) (len cap : Nat) (zs : List Int) (hr : Row 1 w a len zs) (hl : len ≤ 9223372036854775807) (hz : ∀ n ∈ zs, okI n) :
    Calls Try.prog 19 #[.agg #[.int .i64 x0, .int .i64 x1], .agg #[.int .i64 u0, .int .i64 u1, .int .i64 u2], .slice a len cap] w fun e w' => e = .returned (.bool true) ∧ Below w.heap.size w w' := by
  rcases hr with ⟨rfl, _⟩ | ⟨b, off, rfl, hb, _, hc⟩
  · exact bucketWhen_none w x0 x1 u0 u1 u2 a cap hx0 hx1 hu0 hu1 hu2
  · exact bucketWhen_some w x0 x1 u0 u1 u2 b off len cap zs hb (fun j hj => hc j (by omega)) hl hz hx0 hx1 hu0 hu1 hu2

end Go.Proofs.Ytcholjdbmmgakaa
