/- The walk of PaceWhen. -/
import Derived.Test.YtcholjdbmmgakaaPacePlay
namespace Go.Proofs.Ytcholjdbmmgakaa
open Go.RowKit Sat

theorem Row.step {c : Nat} {w w' : World} {a : Option Addr} {len : Nat} {zs : List Int} (h : Row c w a len zs) (g : Below w.heap.size w w') : Row c w' a len zs := by
  rcases h with h | ⟨b, off, rfl, hb, hl, hc⟩
  · exact Or.inl h
  · exact Or.inr ⟨b, off, rfl, Nat.lt_of_lt_of_le hb g.size, hl, fun j hj => (g.cell (p := ⟨b, off + j, none⟩) hb).trans (hc j hj)⟩
theorem can_fill {s : BS} {x y t z : Int} (h : s.Ok) (hz : isSz1 z = true) (t0 : s.t ≤ t) (t1 : t ≤ 9007199254740991) : s.canB x y t z = decide (z ≤ (s.fill t x y).n) := by
  have h0 := h.t0
  unfold BS.canB BS.sendE
  rw [if_pos ⟨isNum_yes (by omega) t1, hz⟩, if_neg (by omega)]
  by_cases g : (s.fill t x y).n < z
  · rw [if_pos g, decide_eq_false (by omega)]; rfl
  · rw [if_neg g, decide_eq_true (by omega)]; rfl
theorem can_when {s : BS} {x y z : Int} (h : s.Ok) (hm : may x y = true) (hz : isSz1 z = true) :
    (s.whenP x y z = -1 ∧ (z ≤ s.b → s.n < z) ∧ ∀ t, s.t ≤ t → t ≤ 9007199254740991 → s.canB x y t z = false) ∨
    (∃ v, s.whenP x y z = v ∧ s.t ≤ v ∧ v ≤ 9007199254740991 ∧ ∀ t, s.t ≤ t → t ≤ 9007199254740991 → s.canB x y t z = decide (v ≤ t)) := by
  have hz1 := (isSz1_true hz).1
  have e : s.whenP x y z = s.when z x y := by unfold BS.whenP; rw [if_pos hz]
  rw [e]
  by_cases g : z ≤ s.b
  · rcases when_spec h (k := z) (x := x) (y := y) (by omega) g hm with ⟨g1, g2, g3⟩ | ⟨g1, g2, g3⟩
    · exact Or.inl ⟨g1, fun _ => g2, fun t t0 t1 => by rw [can_fill h hz t0 t1]; exact decide_eq_false (by have := g3 t t0 t1; omega)⟩
    · exact Or.inr ⟨_, rfl, g1, g2, fun t t0 t1 => by rw [can_fill h hz t0 t1]; exact decide_eq_decide.2 (g3 t t0 t1)⟩
  · refine Or.inl ⟨BS.when_big (by omega), fun q => absurd q g, fun t t0 t1 => ?_⟩
    rw [can_fill h hz t0 t1, fill_n h t0 t1 hm]
    exact decide_eq_false (by omega)
theorem owns_slice {w : World} {base : Nat} {e : TypeId} {size : Nat} {v : Value} {n : Nat} {xs : List Value} (h : w.ownsRow base e size v n xs) : ∃ a cap, v = .slice a n cap := by
  rcases h.2 with ⟨rfl, rfl⟩ | ⟨g, cap, cur, rfl, _⟩
  · exact ⟨none, 0, rfl⟩
  · exact ⟨_, cap, rfl⟩

set_option maxRecDepth 100000 in
set_option maxHeartbeats 2000000 in
theorem paceWhen_none (w : World) (u : Int) (hu : okI u) (a0 : Option Addr) (len cap : Nat) (zs : List Int) (hlen : len = 0) (hr : Row 4 w a0 len zs) (hz : ∀ n ∈ zs, okI n) (x0 x1 x2 : Int) (hx0 : okI x0) (hx1 : okI x1) (hx2 : okI x2) :
    Calls Try.prog 24 #[.int .i64 u, .slice a0 len cap, .agg #[.int .i64 x0, .int .i64 x1, .int .i64 x2]] w fun e w' => e = .returned (.bool true) ∧ Below w.heap.size w w' := by
  subst hlen
  have h00 : (0 : Int) = after zs (min 0 40) := rfl
  have HTE := Lib.hid h00
  clear h00
  obtain ⟨u0, u1⟩ := bring_bd u 1048576 (by omega)
  obtain ⟨z0, z1⟩ := bring_bd x0 3000 (by omega)
  have HU := Lib.hid (fun w => bring_any u 1048576 w hu (by omega) (by omega))
  have HS := Lib.hid (fun w => bring_any x0 3000 w hx0 (by omega) (by omega))
  obtain ⟨U, hU⟩ : ∃ v, u % 1048576 = v := ⟨_, rfl⟩
  obtain ⟨z, hz'⟩ : ∃ v, x0 % 3000 = v := ⟨_, rfl⟩
  rw [hU] at HU u0 u1
  rw [hz'] at HS z0 z1
  clear hU hz' hu hx0
  obtain ⟨W, hW⟩ : ∃ W : World, w.alloc (.cells #[.int .i64 x0, .int .i64 x1, .int .i64 x2] 86 (0, 0)) = W := ⟨_, rfl⟩
  have hWs : W.heap.size = w.heap.size + 1 := by rw [← hW]; simp
  have hWx : W.heap[w.heap.size]? = some (.cells #[.int .i64 x0, .int .i64 x1, .int .i64 x2] 86 (0, 0)) := by rw [← hW]; exact new_at _ _
  have hWb : Below w.heap.size w W := by rw [← hW]; exact (Below.refl _ _).alloc (Nat.le_refl _) _
  have HWS := Lib.hid hWs; have HWX := Lib.hid hWx; have HWB := Lib.hid hWb
  have HRR := Lib.hid (hr.step hWb)
  have hN : BS.newE (1 + U) 0 = 0 := by unfold BS.newE; rw [if_pos ⟨⟨by omega, by omega⟩, rfl⟩]
  have HNN := Lib.hid hN
  clear hWs hWx hWb hN
  go_enter Try.func24, Try.ntmps24
  go_wp2_with (first | (go_at_call 57; refine (HU.out _).mono ?_; rintro e w' ⟨rfl, rfl⟩))
  refine (new_pk HNN.out (Gr.refl W)).mono ?_
  rintro e w1 ⟨p, rfl, h1⟩
  have HP1 := Lib.hid h1; clear h1 hW
  go_wp2_with fail
  refine (play_any (1 + U) (by omega) (by omega) p _ W.heap.size W w1 HP1.out (Nat.le_refl _) _ _ _ zs HRR.out (by omega) hz).mono ?_
  rintro e w2 ⟨v1, v2, b', s, X, Y, Z, m, G, g, rfl, hL, hpl, km, kg⟩
  obtain ⟨ga, gcap, rfl⟩ := owns_slice hL.r2
  have HPL := Lib.hid hL; have HPP := Lib.hid hpl
  have hxx := at_old (hL.pk.gr.1) (by have := HWS.out; omega) HWX.out
  have cx0 : w2.cell? ⟨w.heap.size, 0, none⟩ = some (.int .i64 x0) := cellOf hxx rfl
  have cx1 : w2.cell? ⟨w.heap.size, 1, none⟩ = some (.int .i64 x1) := cellOf hxx rfl
  have cx2 : w2.cell? ⟨w.heap.size, 2, none⟩ = some (.int .i64 x2) := cellOf hxx rfl
  clear hL hpl HP1 hxx
  go_wp2_with fail
  go_loopw [12, 13] (fun t i wr => t = .int .i64 0 ∧ i = .int .i64 0 ∧ wr = w2) (fun _ _ _ => 0)
  case atStart => exact ⟨rfl, rfl, rfl⟩
  case round =>
    obtain ⟨ht, rfl, rfl⟩ := hrel
    have hq : ¬ ((0 : Int) < ((0 : Nat) : Int)) := by omega
    have TEQ := HTE.out
    obtain ⟨TT, hTT⟩ : ∃ TT : Int, TT = 0 := ⟨_, rfl⟩
    rw [← hTT] at TEQ ht
    subst ht
    clear hTT
    have hlen0 : min 0 40 = 0 := rfl
    have hTb := after_bd zs (min 0 40)
    have hst := HPP.out.st
    have hok := HPP.out.ok
    have hmay := HPP.out.may
    have hbb := HPP.out.b
    have hful := HPP.out.full
    obtain ⟨T, hT⟩ : ∃ v, after zs (min 0 40) = v := ⟨_, rfl⟩
    rw [hT] at hTb hst TEQ
    have TEQ := TEQ.symm
    subst TEQ
    have st0 := hok.t0
    have hT1 : T ≤ 42949672960 := by omega
    rcases can_when hok hmay (isSz1_yes (z := 1 + z) (by omega) (by omega)) with ⟨e1, e2, e3⟩ | ⟨v, e1, e2, e3, e4⟩
    · have A1 := Lib.hid e1
      have A2 := Lib.hid (e3 T hst (by omega))
      have A3 := Lib.hid (e3 9007199254740991 hok.t1 (by omega))
      clear e1 e3
      by_cases hbig : 1 + U < 1 + z
      · clear hful e2 hok hmay hbb hT
        go_wp2_with (first | (go_at_call 57; refine (HS.out _).mono ?_; rintro e w' ⟨rfl, rfl⟩) | (go_at_call 101; refine (when_pk (-1) A1.out HPL.out.pk).mono ?_; rintro e w3 ⟨rfl, h3, _⟩; have H3 := Lib.hid h3; clear h3) | (go_at_call_has 102 (Value.int .i64 9007199254740991); refine (can_pk false A3.out H4.out).mono ?_; rintro e w5 ⟨rfl, h5, _⟩; have H5 := Lib.hid h5; clear h5) | (go_at_call 102; refine (can_pk false A2.out H3.out).mono ?_; rintro e w4 ⟨rfl, h4, _⟩; have H4 := Lib.hid h4; clear h4) | (go_at_call 91; refine (works14_any H5.out.gr).mono ?_; rintro e w6 ⟨rfl, h6⟩))
        go_ret
        exact ⟨rfl, HWB.out.trans (h6.1.mono (by have := HWS.out; omega))⟩
      · have hg : 0 < g := by
          rcases Nat.eq_zero_or_pos g with q | q
          · have := hful q; have := e2 (by omega); omega
          · exact q
        have hg' : (0 : Int) < (g : Int) := by omega
        clear hful e2 hok hmay hbb hT
        by_cases hX : X = 0
        · subst hX
          have hfld : ∀ w : World, (Instr.field 60 (.agg #[.int .i64 0, .int .i64 Y]) 0).run Try.prog w = .ok (.int .i64 0) w := fun _ => by kernel_rfl
          go_wp2_with (first | (go_at_call 57; refine (HS.out _).mono ?_; rintro e w' ⟨rfl, rfl⟩) | (go_at_call 101; refine (when_pk (-1) A1.out HPL.out.pk).mono ?_; rintro e w3 ⟨rfl, h3, _⟩; have H3 := Lib.hid h3; clear h3) | (go_at_call_has 102 (Value.int .i64 9007199254740991); refine (can_pk false A3.out H4.out).mono ?_; rintro e w5 ⟨rfl, h5, _⟩; have H5 := Lib.hid h5; clear h5) | (go_at_call 102; refine (can_pk false A2.out H3.out).mono ?_; rintro e w4 ⟨rfl, h4, _⟩; have H4 := Lib.hid h4; clear h4) | (go_at_call 103; refine (rate_pk H5.out).mono ?_; rintro e w7 ⟨rfl, h7, _⟩; have H7 := Lib.hid h7; clear h7) | (go_at_call 91; refine (works14_any H7.out.gr).mono ?_; rintro e w6 ⟨rfl, h6⟩))
          go_ret
          exact ⟨rfl, HWB.out.trans (h6.1.mono (by have := HWS.out; omega))⟩
        · have hX' : (X == 0) = false := beq_eq_false_iff_ne.2 hX
          have hfld : ∀ w : World, (Instr.field 60 (.agg #[.int .i64 X, .int .i64 Y]) 0).run Try.prog w = .ok (.int .i64 X) w := fun _ => by kernel_rfl
          go_wp2_with (first | (go_at_call 57; refine (HS.out _).mono ?_; rintro e w' ⟨rfl, rfl⟩) | (go_at_call 101; refine (when_pk (-1) A1.out HPL.out.pk).mono ?_; rintro e w3 ⟨rfl, h3, _⟩; have H3 := Lib.hid h3; clear h3) | (go_at_call_has 102 (Value.int .i64 9007199254740991); refine (can_pk false A3.out H4.out).mono ?_; rintro e w5 ⟨rfl, h5, _⟩; have H5 := Lib.hid h5; clear h5) | (go_at_call 102; refine (can_pk false A2.out H3.out).mono ?_; rintro e w4 ⟨rfl, h4, _⟩; have H4 := Lib.hid h4; clear h4) | (go_at_call 103; refine (rate_pk H5.out).mono ?_; rintro e w7 ⟨rfl, h7, _⟩; have H7 := Lib.hid h7; clear h7) | (go_at_call 91; refine (works14_any H7.out.gr).mono ?_; rintro e w6 ⟨rfl, h6⟩))
          go_ret
          exact ⟨rfl, HWB.out.trans (h6.1.mono (by have := HWS.out; omega))⟩
    · have A1 := Lib.hid e1
      clear e1 hful hmay hbb hT
      obtain ⟨nw, hnw⟩ : ∃ nw, max v T = nw := ⟨_, rfl⟩
      have nw0 : v ≤ nw := by omega
      have nw1 : T ≤ nw := by omega
      have nw2 : nw ≤ 9007199254740991 := by omega
      have A2 := Lib.hid ((e4 nw (by omega) (by omega)).trans (decide_eq_true nw0))
      obtain ⟨q0, q1⟩ := bring_bd x1 (9007199254740992 - nw) (by omega)
      have HQ := Lib.hid (fun w => bring_any x1 (9007199254740992 - nw) w hx1 (by omega) (by omega))
      obtain ⟨q, hq⟩ : ∃ q, x1 % (9007199254740992 - nw) = q := ⟨_, rfl⟩
      rw [hq] at HQ q0 q1
      have A3 := Lib.hid ((e4 (nw + q) (by omega) (by omega)).trans (decide_eq_true (by omega)))
      have hv1 : (v == -1) = false := beq_eq_false_iff_ne.2 (by omega)
      clear hq hok
      have b1 : Hid (∀ wx, Gr W.heap.size W wx → wx.cell? ⟨w.heap.size, 1, none⟩ = some (.int .i64 x1)) := Lib.hid fun wx g => cellOf (at_old g.1 (by have := HWS.out; omega) HWX.out) rfl
      have b2 : Hid (∀ wx, Gr W.heap.size W wx → wx.cell? ⟨w.heap.size, 2, none⟩ = some (.int .i64 x2)) := Lib.hid fun wx g => cellOf (at_old g.1 (by have := HWS.out; omega) HWX.out) rfl
      clear cx1 cx2
      by_cases hle : v ≤ T
      · clear e4
        go_wp2_with (first | (go_at_call_has 57 (Value.int .i64 3000); refine (HS.out _).mono ?_; rintro e w' ⟨rfl, rfl⟩) | (go_at_call_has 57 (Value.int .i64 x1); refine (HQ.out _).mono ?_; rintro e w' ⟨rfl, rfl⟩) | (go_at_call 101; refine (when_pk v A1.out HPL.out.pk).mono ?_; rintro e w3 ⟨rfl, h3, _⟩; have H3 := Lib.hid h3; clear h3) | (go_at_call_has 102 (Value.int .i64 nw); refine (can_pk true A2.out H3.out).mono ?_; rintro e w4 ⟨rfl, h4, _⟩; have k1 := b1.out _ h4.gr; have H4 := Lib.hid h4; clear h4) | (go_at_call 102; refine (can_pk true A3.out H4.out).mono ?_; rintro e w5 ⟨rfl, h5, _⟩; have H5 := Lib.hid h5; clear h5) | (go_at_call 91; refine (works14_any H5.out.gr).mono ?_; rintro e w6 ⟨rfl, h6⟩))
        go_ret
        exact ⟨rfl, HWB.out.trans (h6.1.mono (by have := HWS.out; omega))⟩
      · obtain ⟨j0, j1⟩ := bring_bd x2 (v - T) (by omega)
        have HJ := Lib.hid (fun w => bring_any x2 (v - T) w hx2 (by omega) (by omega))
        obtain ⟨j, hj⟩ : ∃ j, x2 % (v - T) = j := ⟨_, rfl⟩
        rw [hj] at HJ j0 j1
        obtain ⟨ee, hee⟩ : ∃ ee, max T (v - 1 - j) = ee := ⟨_, rfl⟩
        have ee0 : T ≤ ee := by omega
        have ee1 : ee ≤ v - 1 := by omega
        have A4 := Lib.hid ((e4 ee (by omega) (by omega)).trans (decide_eq_false (by omega)))
        clear hj e4
        go_wp2_with (first | (go_at_call_has 57 (Value.int .i64 3000); refine (HS.out _).mono ?_; rintro e w' ⟨rfl, rfl⟩) | (go_at_call_has 57 (Value.int .i64 x1); refine (HQ.out _).mono ?_; rintro e w' ⟨rfl, rfl⟩) | (go_at_call_has 57 (Value.int .i64 x2); refine (HJ.out _).mono ?_; rintro e w' ⟨rfl, rfl⟩) | (go_at_call 101; refine (when_pk v A1.out HPL.out.pk).mono ?_; rintro e w3 ⟨rfl, h3, _⟩; have H3 := Lib.hid h3; clear h3) | (go_at_call_has 102 (Value.int .i64 ee); refine (can_pk false A4.out H5.out).mono ?_; rintro e w7 ⟨rfl, h7, _⟩; have H7 := Lib.hid h7; clear h7) | (go_at_call_has 102 (Value.int .i64 nw); refine (can_pk true A2.out H3.out).mono ?_; rintro e w4 ⟨rfl, h4, _⟩; have k1 := b1.out _ h4.gr; have H4 := Lib.hid h4; clear h4) | (go_at_call 102; refine (can_pk true A3.out H4.out).mono ?_; rintro e w5 ⟨rfl, h5, _⟩; have k2 := b2.out _ h5.gr; have H5 := Lib.hid h5; clear h5) | (go_at_call 91; refine (works14_any H7.out.gr).mono ?_; rintro e w6 ⟨rfl, h6⟩))
        go_ret
        exact ⟨rfl, HWB.out.trans (h6.1.mono (by have := HWS.out; omega))⟩

set_option maxRecDepth 100000 in
set_option maxHeartbeats 3000000 in
theorem paceWhen_some (w : World) (u : Int) (hu : okI u) (b0 off len cap : Nat) (zs : List Int) (hr : Row 4 w (some ⟨b0, off, none⟩) len zs) (hb : b0 < w.heap.size) (hc : ∀ j, j < len * 4 → w.cell? ⟨b0, off + j, none⟩ = some (.int .i64 (zs.getD j 0))) (hl : len ≤ 9223372036854775807) (hz : ∀ n ∈ zs, okI n) (x0 x1 x2 : Int) (hx0 : okI x0) (hx1 : okI x1) (hx2 : okI x2) :
    Calls Try.prog 24 #[.int .i64 u, .slice (some ⟨b0, off, none⟩) len cap, .agg #[.int .i64 x0, .int .i64 x1, .int .i64 x2]] w fun e w' => e = .returned (.bool true) ∧ Below w.heap.size w w' := by
  have HCC := Lib.hid hc; clear hc
  have HZZ := Lib.hid hz
  obtain ⟨u0, u1⟩ := bring_bd u 1048576 (by omega)
  obtain ⟨z0, z1⟩ := bring_bd x0 3000 (by omega)
  have HU := Lib.hid (fun w => bring_any u 1048576 w hu (by omega) (by omega))
  have HS := Lib.hid (fun w => bring_any x0 3000 w hx0 (by omega) (by omega))
  obtain ⟨U, hU⟩ : ∃ v, u % 1048576 = v := ⟨_, rfl⟩
  obtain ⟨z, hz'⟩ : ∃ v, x0 % 3000 = v := ⟨_, rfl⟩
  rw [hU] at HU u0 u1
  rw [hz'] at HS z0 z1
  clear hU hz' hu hx0
  obtain ⟨W, hW⟩ : ∃ W : World, w.alloc (.cells #[.int .i64 x0, .int .i64 x1, .int .i64 x2] 86 (0, 0)) = W := ⟨_, rfl⟩
  have hWs : W.heap.size = w.heap.size + 1 := by rw [← hW]; simp
  have hWx : W.heap[w.heap.size]? = some (.cells #[.int .i64 x0, .int .i64 x1, .int .i64 x2] 86 (0, 0)) := by rw [← hW]; exact new_at _ _
  have hWb : Below w.heap.size w W := by rw [← hW]; exact (Below.refl _ _).alloc (Nat.le_refl _) _
  have HWS := Lib.hid hWs; have HWX := Lib.hid hWx; have HWB := Lib.hid hWb
  have HRR := Lib.hid (hr.step hWb)
  have hN : BS.newE (1 + U) 0 = 0 := by unfold BS.newE; rw [if_pos ⟨⟨by omega, by omega⟩, rfl⟩]
  have HNN := Lib.hid hN
  clear hWs hWx hWb hN
  go_enter Try.func24, Try.ntmps24
  go_wp2_with (first | (go_at_call 57; refine (HU.out _).mono ?_; rintro e w' ⟨rfl, rfl⟩))
  refine (new_pk HNN.out (Gr.refl W)).mono ?_
  rintro e w1 ⟨p, rfl, h1⟩
  have HP1 := Lib.hid h1; clear h1 hW
  go_wp2_with fail
  refine (play_any (1 + U) (by omega) (by omega) p _ W.heap.size W w1 HP1.out (Nat.le_refl _) _ _ _ zs HRR.out (by omega) hz).mono ?_
  rintro e w2 ⟨v1, v2, b', s, X, Y, Z, m, G, g, rfl, hL, hpl, km, kg⟩
  obtain ⟨ga, gcap, rfl⟩ := owns_slice hL.r2
  have HPL := Lib.hid hL; have HPP := Lib.hid hpl
  have hxx := at_old (hL.pk.gr.1) (by have := HWS.out; omega) HWX.out
  have cx0 : w2.cell? ⟨w.heap.size, 0, none⟩ = some (.int .i64 x0) := cellOf hxx rfl
  have cx1 : w2.cell? ⟨w.heap.size, 1, none⟩ = some (.int .i64 x1) := cellOf hxx rfl
  have cx2 : w2.cell? ⟨w.heap.size, 2, none⟩ = some (.int .i64 x2) := cellOf hxx rfl
  clear hL hpl HP1 hxx
  go_wp2_with fail
  go_loopw [12, 13] (fun t iv wr => ∃ (i : Nat) (T : Int), i ≤ len ∧ i ≤ 40 ∧ t = .int .i64 T ∧ T = after zs i ∧ iv = .int .i64 i ∧ wr = w2) (fun _ i _ => (40 - intOf i).toNat)
  case atStart => exact ⟨0, 0, by omega, by omega, by first | rfl | trivial, by first | rfl | trivial, by first | rfl | trivial, by first | rfl | trivial⟩
  case round =>
    obtain ⟨i, TT, k1, k2, rfl, hTe, rfl, rfl⟩ := hrel
    by_cases hlt : i < len ∧ i < 40
    · obtain ⟨hk, hk40⟩ := hlt
      have hcell := ((HPL.out.pk.gr.1.cell (p := ⟨b0, off + i * 4, none⟩) (by have := HWS.out; show b0 < _; omega)).trans (HWB.out.cell (p := ⟨b0, off + i * 4, none⟩) hb)).trans (HCC.out (i * 4) (by omega))
      have hv := okI_getD HZZ.out (i * 4)
      have hTb := after_bd zs i
      rw [← hTe] at hTb
      have hTE := Lib.hid (show TT + zs.getD (i * 4) 0 % 1073741824 = after zs (i + 1) by rw [hTe]; rfl)
      clear hTe
      generalize zs.getD (i * 4) 0 = v at hcell hv hTE
      have c0 : (0 : Int) ≤ (i : Int) := by omega
      have c1 : (i : Int) < (len : Int) := by omega
      have c2 : (i : Int) < 40 := by omega
      obtain ⟨d0, d1⟩ := bring_bd v 1073741824 (by omega)
      have HD := Lib.hid (fun w => bring_any v 1073741824 w hv (by omega) (by omega))
      obtain ⟨D, hD⟩ : ∃ D, v % 1073741824 = D := ⟨_, rfl⟩
      rw [hD] at HD d0 d1 hTE
      clear hD hv
      go_wp2_with (first | (go_at_call 57; refine (HD.out _).mono ?_; rintro e w' ⟨rfl, rfl⟩))
      go_roundw
      case rel => exact ⟨i + 1, TT + D, by omega, by omega, by first | rfl | trivial, by first | exact hTE.out | trivial, by first | go_num | trivial, by first | rfl | trivial⟩
      case measure => simp [intOf]; omega
    · have e : min len 40 = i := by omega
      have TEQ : TT = after zs (min len 40) := by rw [e, hTe]
      clear hTe e
      by_cases hk : i < len
      · have q1 : (i : Int) < (len : Int) := by omega
        have q2 : ¬ (i : Int) < 40 := by omega
        clear hlt
        have hTb := after_bd zs (min len 40)
        have hst := HPP.out.st
        have hok := HPP.out.ok
        have hmay := HPP.out.may
        have hbb := HPP.out.b
        have hful := HPP.out.full
        obtain ⟨T, hT⟩ : ∃ v, after zs (min len 40) = v := ⟨_, rfl⟩
        rw [hT] at hTb hst TEQ
        have TEQ := TEQ.symm
        subst TEQ
        have st0 := hok.t0
        have hT1 : T ≤ 42949672960 := by omega
        rcases can_when hok hmay (isSz1_yes (z := 1 + z) (by omega) (by omega)) with ⟨e1, e2, e3⟩ | ⟨v, e1, e2, e3, e4⟩
        · have A1 := Lib.hid e1
          have A2 := Lib.hid (e3 T hst (by omega))
          have A3 := Lib.hid (e3 9007199254740991 hok.t1 (by omega))
          clear e1 e3
          by_cases hbig : 1 + U < 1 + z
          · clear hful e2 hok hmay hbb hT
            go_wp2_with (first | (go_at_call 57; refine (HS.out _).mono ?_; rintro e w' ⟨rfl, rfl⟩) | (go_at_call 101; refine (when_pk (-1) A1.out HPL.out.pk).mono ?_; rintro e w3 ⟨rfl, h3, _⟩; have H3 := Lib.hid h3; clear h3) | (go_at_call_has 102 (Value.int .i64 9007199254740991); refine (can_pk false A3.out H4.out).mono ?_; rintro e w5 ⟨rfl, h5, _⟩; have H5 := Lib.hid h5; clear h5) | (go_at_call 102; refine (can_pk false A2.out H3.out).mono ?_; rintro e w4 ⟨rfl, h4, _⟩; have H4 := Lib.hid h4; clear h4) | (go_at_call 91; refine (works14_any H5.out.gr).mono ?_; rintro e w6 ⟨rfl, h6⟩))
            go_ret
            exact ⟨rfl, HWB.out.trans (h6.1.mono (by have := HWS.out; omega))⟩
          · have hg : 0 < g := by
              rcases Nat.eq_zero_or_pos g with q | q
              · have := hful q; have := e2 (by omega); omega
              · exact q
            have hg' : (0 : Int) < (g : Int) := by omega
            clear hful e2 hok hmay hbb hT
            by_cases hX : X = 0
            · subst hX
              have hfld : ∀ w : World, (Instr.field 60 (.agg #[.int .i64 0, .int .i64 Y]) 0).run Try.prog w = .ok (.int .i64 0) w := fun _ => by kernel_rfl
              go_wp2_with (first | (go_at_call 57; refine (HS.out _).mono ?_; rintro e w' ⟨rfl, rfl⟩) | (go_at_call 101; refine (when_pk (-1) A1.out HPL.out.pk).mono ?_; rintro e w3 ⟨rfl, h3, _⟩; have H3 := Lib.hid h3; clear h3) | (go_at_call_has 102 (Value.int .i64 9007199254740991); refine (can_pk false A3.out H4.out).mono ?_; rintro e w5 ⟨rfl, h5, _⟩; have H5 := Lib.hid h5; clear h5) | (go_at_call 102; refine (can_pk false A2.out H3.out).mono ?_; rintro e w4 ⟨rfl, h4, _⟩; have H4 := Lib.hid h4; clear h4) | (go_at_call 103; refine (rate_pk H5.out).mono ?_; rintro e w7 ⟨rfl, h7, _⟩; have H7 := Lib.hid h7; clear h7) | (go_at_call 91; refine (works14_any H7.out.gr).mono ?_; rintro e w6 ⟨rfl, h6⟩))
              go_ret
              exact ⟨rfl, HWB.out.trans (h6.1.mono (by have := HWS.out; omega))⟩
            · have hX' : (X == 0) = false := beq_eq_false_iff_ne.2 hX
              have hfld : ∀ w : World, (Instr.field 60 (.agg #[.int .i64 X, .int .i64 Y]) 0).run Try.prog w = .ok (.int .i64 X) w := fun _ => by kernel_rfl
              go_wp2_with (first | (go_at_call 57; refine (HS.out _).mono ?_; rintro e w' ⟨rfl, rfl⟩) | (go_at_call 101; refine (when_pk (-1) A1.out HPL.out.pk).mono ?_; rintro e w3 ⟨rfl, h3, _⟩; have H3 := Lib.hid h3; clear h3) | (go_at_call_has 102 (Value.int .i64 9007199254740991); refine (can_pk false A3.out H4.out).mono ?_; rintro e w5 ⟨rfl, h5, _⟩; have H5 := Lib.hid h5; clear h5) | (go_at_call 102; refine (can_pk false A2.out H3.out).mono ?_; rintro e w4 ⟨rfl, h4, _⟩; have H4 := Lib.hid h4; clear h4) | (go_at_call 103; refine (rate_pk H5.out).mono ?_; rintro e w7 ⟨rfl, h7, _⟩; have H7 := Lib.hid h7; clear h7) | (go_at_call 91; refine (works14_any H7.out.gr).mono ?_; rintro e w6 ⟨rfl, h6⟩))
              go_ret
              exact ⟨rfl, HWB.out.trans (h6.1.mono (by have := HWS.out; omega))⟩
        · have A1 := Lib.hid e1
          clear e1 hful hmay hbb hT
          obtain ⟨nw, hnw⟩ : ∃ nw, max v T = nw := ⟨_, rfl⟩
          have nw0 : v ≤ nw := by omega
          have nw1 : T ≤ nw := by omega
          have nw2 : nw ≤ 9007199254740991 := by omega
          have A2 := Lib.hid ((e4 nw (by omega) (by omega)).trans (decide_eq_true nw0))
          obtain ⟨q0, q1⟩ := bring_bd x1 (9007199254740992 - nw) (by omega)
          have HQ := Lib.hid (fun w => bring_any x1 (9007199254740992 - nw) w hx1 (by omega) (by omega))
          obtain ⟨q, hq⟩ : ∃ q, x1 % (9007199254740992 - nw) = q := ⟨_, rfl⟩
          rw [hq] at HQ q0 q1
          have A3 := Lib.hid ((e4 (nw + q) (by omega) (by omega)).trans (decide_eq_true (by omega)))
          have hv1 : (v == -1) = false := beq_eq_false_iff_ne.2 (by omega)
          clear hq hok
          have b1 : Hid (∀ wx, Gr W.heap.size W wx → wx.cell? ⟨w.heap.size, 1, none⟩ = some (.int .i64 x1)) := Lib.hid fun wx g => cellOf (at_old g.1 (by have := HWS.out; omega) HWX.out) rfl
          have b2 : Hid (∀ wx, Gr W.heap.size W wx → wx.cell? ⟨w.heap.size, 2, none⟩ = some (.int .i64 x2)) := Lib.hid fun wx g => cellOf (at_old g.1 (by have := HWS.out; omega) HWX.out) rfl
          clear cx1 cx2
          by_cases hle : v ≤ T
          · clear e4
            go_wp2_with (first | (go_at_call_has 57 (Value.int .i64 3000); refine (HS.out _).mono ?_; rintro e w' ⟨rfl, rfl⟩) | (go_at_call_has 57 (Value.int .i64 x1); refine (HQ.out _).mono ?_; rintro e w' ⟨rfl, rfl⟩) | (go_at_call 101; refine (when_pk v A1.out HPL.out.pk).mono ?_; rintro e w3 ⟨rfl, h3, _⟩; have H3 := Lib.hid h3; clear h3) | (go_at_call_has 102 (Value.int .i64 nw); refine (can_pk true A2.out H3.out).mono ?_; rintro e w4 ⟨rfl, h4, _⟩; have k1 := b1.out _ h4.gr; have H4 := Lib.hid h4; clear h4) | (go_at_call 102; refine (can_pk true A3.out H4.out).mono ?_; rintro e w5 ⟨rfl, h5, _⟩; have H5 := Lib.hid h5; clear h5) | (go_at_call 91; refine (works14_any H5.out.gr).mono ?_; rintro e w6 ⟨rfl, h6⟩))
            go_ret
            exact ⟨rfl, HWB.out.trans (h6.1.mono (by have := HWS.out; omega))⟩
          · obtain ⟨j0, j1⟩ := bring_bd x2 (v - T) (by omega)
            have HJ := Lib.hid (fun w => bring_any x2 (v - T) w hx2 (by omega) (by omega))
            obtain ⟨j, hj⟩ : ∃ j, x2 % (v - T) = j := ⟨_, rfl⟩
            rw [hj] at HJ j0 j1
            obtain ⟨ee, hee⟩ : ∃ ee, max T (v - 1 - j) = ee := ⟨_, rfl⟩
            have ee0 : T ≤ ee := by omega
            have ee1 : ee ≤ v - 1 := by omega
            have A4 := Lib.hid ((e4 ee (by omega) (by omega)).trans (decide_eq_false (by omega)))
            clear hj e4
            go_wp2_with (first | (go_at_call_has 57 (Value.int .i64 3000); refine (HS.out _).mono ?_; rintro e w' ⟨rfl, rfl⟩) | (go_at_call_has 57 (Value.int .i64 x1); refine (HQ.out _).mono ?_; rintro e w' ⟨rfl, rfl⟩) | (go_at_call_has 57 (Value.int .i64 x2); refine (HJ.out _).mono ?_; rintro e w' ⟨rfl, rfl⟩) | (go_at_call 101; refine (when_pk v A1.out HPL.out.pk).mono ?_; rintro e w3 ⟨rfl, h3, _⟩; have H3 := Lib.hid h3; clear h3) | (go_at_call_has 102 (Value.int .i64 ee); refine (can_pk false A4.out H5.out).mono ?_; rintro e w7 ⟨rfl, h7, _⟩; have H7 := Lib.hid h7; clear h7) | (go_at_call_has 102 (Value.int .i64 nw); refine (can_pk true A2.out H3.out).mono ?_; rintro e w4 ⟨rfl, h4, _⟩; have k1 := b1.out _ h4.gr; have H4 := Lib.hid h4; clear h4) | (go_at_call 102; refine (can_pk true A3.out H4.out).mono ?_; rintro e w5 ⟨rfl, h5, _⟩; have k2 := b2.out _ h5.gr; have H5 := Lib.hid h5; clear h5) | (go_at_call 91; refine (works14_any H7.out.gr).mono ?_; rintro e w6 ⟨rfl, h6⟩))
            go_ret
            exact ⟨rfl, HWB.out.trans (h6.1.mono (by have := HWS.out; omega))⟩
      · have q1 : ¬ (i : Int) < (len : Int) := by omega
        clear hlt
        have hTb := after_bd zs (min len 40)
        have hst := HPP.out.st
        have hok := HPP.out.ok
        have hmay := HPP.out.may
        have hbb := HPP.out.b
        have hful := HPP.out.full
        obtain ⟨T, hT⟩ : ∃ v, after zs (min len 40) = v := ⟨_, rfl⟩
        rw [hT] at hTb hst TEQ
        have TEQ := TEQ.symm
        subst TEQ
        have st0 := hok.t0
        have hT1 : T ≤ 42949672960 := by omega
        rcases can_when hok hmay (isSz1_yes (z := 1 + z) (by omega) (by omega)) with ⟨e1, e2, e3⟩ | ⟨v, e1, e2, e3, e4⟩
        · have A1 := Lib.hid e1
          have A2 := Lib.hid (e3 T hst (by omega))
          have A3 := Lib.hid (e3 9007199254740991 hok.t1 (by omega))
          clear e1 e3
          by_cases hbig : 1 + U < 1 + z
          · clear hful e2 hok hmay hbb hT
            go_wp2_with (first | (go_at_call 57; refine (HS.out _).mono ?_; rintro e w' ⟨rfl, rfl⟩) | (go_at_call 101; refine (when_pk (-1) A1.out HPL.out.pk).mono ?_; rintro e w3 ⟨rfl, h3, _⟩; have H3 := Lib.hid h3; clear h3) | (go_at_call_has 102 (Value.int .i64 9007199254740991); refine (can_pk false A3.out H4.out).mono ?_; rintro e w5 ⟨rfl, h5, _⟩; have H5 := Lib.hid h5; clear h5) | (go_at_call 102; refine (can_pk false A2.out H3.out).mono ?_; rintro e w4 ⟨rfl, h4, _⟩; have H4 := Lib.hid h4; clear h4) | (go_at_call 91; refine (works14_any H5.out.gr).mono ?_; rintro e w6 ⟨rfl, h6⟩))
            go_ret
            exact ⟨rfl, HWB.out.trans (h6.1.mono (by have := HWS.out; omega))⟩
          · have hg : 0 < g := by
              rcases Nat.eq_zero_or_pos g with q | q
              · have := hful q; have := e2 (by omega); omega
              · exact q
            have hg' : (0 : Int) < (g : Int) := by omega
            clear hful e2 hok hmay hbb hT
            by_cases hX : X = 0
            · subst hX
              have hfld : ∀ w : World, (Instr.field 60 (.agg #[.int .i64 0, .int .i64 Y]) 0).run Try.prog w = .ok (.int .i64 0) w := fun _ => by kernel_rfl
              go_wp2_with (first | (go_at_call 57; refine (HS.out _).mono ?_; rintro e w' ⟨rfl, rfl⟩) | (go_at_call 101; refine (when_pk (-1) A1.out HPL.out.pk).mono ?_; rintro e w3 ⟨rfl, h3, _⟩; have H3 := Lib.hid h3; clear h3) | (go_at_call_has 102 (Value.int .i64 9007199254740991); refine (can_pk false A3.out H4.out).mono ?_; rintro e w5 ⟨rfl, h5, _⟩; have H5 := Lib.hid h5; clear h5) | (go_at_call 102; refine (can_pk false A2.out H3.out).mono ?_; rintro e w4 ⟨rfl, h4, _⟩; have H4 := Lib.hid h4; clear h4) | (go_at_call 103; refine (rate_pk H5.out).mono ?_; rintro e w7 ⟨rfl, h7, _⟩; have H7 := Lib.hid h7; clear h7) | (go_at_call 91; refine (works14_any H7.out.gr).mono ?_; rintro e w6 ⟨rfl, h6⟩))
              go_ret
              exact ⟨rfl, HWB.out.trans (h6.1.mono (by have := HWS.out; omega))⟩
            · have hX' : (X == 0) = false := beq_eq_false_iff_ne.2 hX
              have hfld : ∀ w : World, (Instr.field 60 (.agg #[.int .i64 X, .int .i64 Y]) 0).run Try.prog w = .ok (.int .i64 X) w := fun _ => by kernel_rfl
              go_wp2_with (first | (go_at_call 57; refine (HS.out _).mono ?_; rintro e w' ⟨rfl, rfl⟩) | (go_at_call 101; refine (when_pk (-1) A1.out HPL.out.pk).mono ?_; rintro e w3 ⟨rfl, h3, _⟩; have H3 := Lib.hid h3; clear h3) | (go_at_call_has 102 (Value.int .i64 9007199254740991); refine (can_pk false A3.out H4.out).mono ?_; rintro e w5 ⟨rfl, h5, _⟩; have H5 := Lib.hid h5; clear h5) | (go_at_call 102; refine (can_pk false A2.out H3.out).mono ?_; rintro e w4 ⟨rfl, h4, _⟩; have H4 := Lib.hid h4; clear h4) | (go_at_call 103; refine (rate_pk H5.out).mono ?_; rintro e w7 ⟨rfl, h7, _⟩; have H7 := Lib.hid h7; clear h7) | (go_at_call 91; refine (works14_any H7.out.gr).mono ?_; rintro e w6 ⟨rfl, h6⟩))
              go_ret
              exact ⟨rfl, HWB.out.trans (h6.1.mono (by have := HWS.out; omega))⟩
        · have A1 := Lib.hid e1
          clear e1 hful hmay hbb hT
          obtain ⟨nw, hnw⟩ : ∃ nw, max v T = nw := ⟨_, rfl⟩
          have nw0 : v ≤ nw := by omega
          have nw1 : T ≤ nw := by omega
          have nw2 : nw ≤ 9007199254740991 := by omega
          have A2 := Lib.hid ((e4 nw (by omega) (by omega)).trans (decide_eq_true nw0))
          obtain ⟨q0, q1⟩ := bring_bd x1 (9007199254740992 - nw) (by omega)
          have HQ := Lib.hid (fun w => bring_any x1 (9007199254740992 - nw) w hx1 (by omega) (by omega))
          obtain ⟨q, hq⟩ : ∃ q, x1 % (9007199254740992 - nw) = q := ⟨_, rfl⟩
          rw [hq] at HQ q0 q1
          have A3 := Lib.hid ((e4 (nw + q) (by omega) (by omega)).trans (decide_eq_true (by omega)))
          have hv1 : (v == -1) = false := beq_eq_false_iff_ne.2 (by omega)
          clear hq hok
          have b1 : Hid (∀ wx, Gr W.heap.size W wx → wx.cell? ⟨w.heap.size, 1, none⟩ = some (.int .i64 x1)) := Lib.hid fun wx g => cellOf (at_old g.1 (by have := HWS.out; omega) HWX.out) rfl
          have b2 : Hid (∀ wx, Gr W.heap.size W wx → wx.cell? ⟨w.heap.size, 2, none⟩ = some (.int .i64 x2)) := Lib.hid fun wx g => cellOf (at_old g.1 (by have := HWS.out; omega) HWX.out) rfl
          clear cx1 cx2
          by_cases hle : v ≤ T
          · clear e4
            go_wp2_with (first | (go_at_call_has 57 (Value.int .i64 3000); refine (HS.out _).mono ?_; rintro e w' ⟨rfl, rfl⟩) | (go_at_call_has 57 (Value.int .i64 x1); refine (HQ.out _).mono ?_; rintro e w' ⟨rfl, rfl⟩) | (go_at_call 101; refine (when_pk v A1.out HPL.out.pk).mono ?_; rintro e w3 ⟨rfl, h3, _⟩; have H3 := Lib.hid h3; clear h3) | (go_at_call_has 102 (Value.int .i64 nw); refine (can_pk true A2.out H3.out).mono ?_; rintro e w4 ⟨rfl, h4, _⟩; have k1 := b1.out _ h4.gr; have H4 := Lib.hid h4; clear h4) | (go_at_call 102; refine (can_pk true A3.out H4.out).mono ?_; rintro e w5 ⟨rfl, h5, _⟩; have H5 := Lib.hid h5; clear h5) | (go_at_call 91; refine (works14_any H5.out.gr).mono ?_; rintro e w6 ⟨rfl, h6⟩))
            go_ret
            exact ⟨rfl, HWB.out.trans (h6.1.mono (by have := HWS.out; omega))⟩
          · obtain ⟨j0, j1⟩ := bring_bd x2 (v - T) (by omega)
            have HJ := Lib.hid (fun w => bring_any x2 (v - T) w hx2 (by omega) (by omega))
            obtain ⟨j, hj⟩ : ∃ j, x2 % (v - T) = j := ⟨_, rfl⟩
            rw [hj] at HJ j0 j1
            obtain ⟨ee, hee⟩ : ∃ ee, max T (v - 1 - j) = ee := ⟨_, rfl⟩
            have ee0 : T ≤ ee := by omega
            have ee1 : ee ≤ v - 1 := by omega
            have A4 := Lib.hid ((e4 ee (by omega) (by omega)).trans (decide_eq_false (by omega)))
            clear hj e4
            go_wp2_with (first | (go_at_call_has 57 (Value.int .i64 3000); refine (HS.out _).mono ?_; rintro e w' ⟨rfl, rfl⟩) | (go_at_call_has 57 (Value.int .i64 x1); refine (HQ.out _).mono ?_; rintro e w' ⟨rfl, rfl⟩) | (go_at_call_has 57 (Value.int .i64 x2); refine (HJ.out _).mono ?_; rintro e w' ⟨rfl, rfl⟩) | (go_at_call 101; refine (when_pk v A1.out HPL.out.pk).mono ?_; rintro e w3 ⟨rfl, h3, _⟩; have H3 := Lib.hid h3; clear h3) | (go_at_call_has 102 (Value.int .i64 ee); refine (can_pk false A4.out H5.out).mono ?_; rintro e w7 ⟨rfl, h7, _⟩; have H7 := Lib.hid h7; clear h7) | (go_at_call_has 102 (Value.int .i64 nw); refine (can_pk true A2.out H3.out).mono ?_; rintro e w4 ⟨rfl, h4, _⟩; have k1 := b1.out _ h4.gr; have H4 := Lib.hid h4; clear h4) | (go_at_call 102; refine (can_pk true A3.out H4.out).mono ?_; rintro e w5 ⟨rfl, h5, _⟩; have k2 := b2.out _ h5.gr; have H5 := Lib.hid h5; clear h5) | (go_at_call 91; refine (works14_any H7.out.gr).mono ?_; rintro e w6 ⟨rfl, h6⟩))
            go_ret
            exact ⟨rfl, HWB.out.trans (h6.1.mono (by have := HWS.out; omega))⟩

theorem paceWhen_walk (w : World) (u : Int) (hu : okI u) (a : Option Addr) (len cap : Nat) (zs : List Int) (hr : Row 4 w a len zs) (hl : len ≤ 9223372036854775807) (hz : ∀ n ∈ zs, okI n) (x0 x1 x2 : Int) (hx0 : okI x0) (hx1 : okI x1) (hx2 : okI x2) :
    Calls Try.prog 24 #[.int .i64 u, .slice a len cap, .agg #[.int .i64 x0, .int .i64 x1, .int .i64 x2]] w fun e w' => e = .returned (.bool true) ∧ Below w.heap.size w w' := by
  rcases id hr with ⟨rfl, _⟩ | ⟨b, off, rfl, hb, _, hc⟩
  · exact paceWhen_none w u hu a 0 cap zs rfl hr hz x0 x1 x2 hx0 hx1 hx2
  · exact paceWhen_some w u hu b off len cap zs hr hb hc hl hz x0 x1 x2 hx0 hx1 hx2

end Go.Proofs.Ytcholjdbmmgakaa
