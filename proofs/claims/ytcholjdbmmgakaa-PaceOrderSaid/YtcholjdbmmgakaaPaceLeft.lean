/- sounderlaw14.left: how much is left at a time in an empty pacer that got its rate at 0. -/
import Derived.Test.YtcholjdbmmgakaaPaceW
namespace Go.Proofs.Ytcholjdbmmgakaa
open Go.RowKit Sat

def leftV (u c m t : Int) : Int := min u (t * (5 * c) / denP m)
/-- A pacer on its way to be empty: at time 0, of a rate of no tokens. -/
structure Em (u r : Int) (s : BS) : Prop where
  ok : s.Ok
  b : s.b = u
  n : s.n = r
  t : s.t = 0
  x : s.num = 0
theorem em_start {u : Int} (h0 : 1 ≤ u) (h1 : u ≤ 1073741824) : Em u u (BS.new u 0) := ⟨BS.new_ok (by unfold BS.newE; rw [if_pos ⟨⟨h0, h1⟩, rfl⟩]), rfl, rfl, rfl, rfl⟩
theorem em_fill {u r : Int} {s : BS} (h : Em u r s) : s.fillE 0 0 1 = 0 ∧ Em u r (s.fill 0 0 1) := by
  have ht := h.t; have hb := h.b; have hn := h.n; have n1 := h.ok.n1
  have hm : may 0 1 = true := by decide
  have e := BS.fillE_yes (s := s) (t := 0) (x := 0) (y := 1) rfl hm (by omega)
  refine ⟨e, BS.fill_ok h.ok (Int.le_refl _) (by omega) hm, (fill_b h.ok (by omega) (by omega) hm).trans hb, ?_, fill_t h.ok (by omega) (by omega) hm, (fill_rate h.ok (by omega) (by omega) hm).1⟩
  rw [fill_n h.ok (by omega) (by omega) hm]
  have k0 := BS.keep_lo h.ok 0 1; have k1 := BS.keep_hi h.ok (x := 0) (y := 1) (by omega)
  have : s.flow 0 0 1 = 0 := by unfold BS.flow; omega
  unfold BS.lvl; rw [this]; omega
theorem em_send {u r : Int} {s : BS} (h : Em u r s) (hr : 0 < r) : s.sendE 0 1 0 (min r 65535) = 0 ∧ Em u (r - min r 65535) (s.sent 0 1 0 (min r 65535)) := by
  obtain ⟨_, g⟩ := em_fill h
  have ht := h.t; have hn := g.n
  have e : s.sendE 0 1 0 (min r 65535) = 0 := by
    unfold BS.sendE; rw [if_pos ⟨rfl, isSz1_yes (by omega) (by omega)⟩, if_neg (by omega), if_neg (by omega)]
  refine ⟨e, ?_⟩
  have k := BS.takeE_yes (s := s.fill 0 0 1) (k := min r 65535) (by omega) (by omega)
  have ok := BS.taken_ok g.ok (min r 65535)
  have e2 : s.sent 0 1 0 (min r 65535) = (s.fill 0 0 1).taken (min r 65535) := by unfold BS.sent; rw [if_pos e]
  rw [e2]
  rw [BS.taken_yes k] at ok ⊢
  exact ⟨ok, g.b, by show (s.fill 0 0 1).n - _ = _; omega, g.t, g.x⟩
theorem em_left {u : Int} {s : BS} (h : Em u 0 s) {c m t : Int} (hc : 1 ≤ c ∧ c ≤ 1099511627776) (t0 : 0 ≤ t) (t1 : t ≤ 9007199254740991) : s.leftP (5 * c) (denP m) t = leftV u c m t := by
  have ht := h.t; have hb := h.b; have hn := h.n
  have hm := may_set (m := m) hc
  obtain ⟨_, ⟨y0, _⟩⟩ := may_true hm
  unfold BS.leftP leftV
  rw [if_pos (BS.fillE_yes (isNum_yes t0 t1) hm (by omega)), fill_n h.ok (by omega) t1 hm, hb]
  have hk : s.keep (5 * c) (denP m) = 0 := by unfold BS.keep; rw [if_neg (by have := h.x; omega)]
  unfold BS.lvl BS.flow
  rw [hk, hn, ht, Int.sub_zero, Int.add_zero, Int.zero_add]
theorem leftV_zero {u c m : Int} (hu : 0 ≤ u) : leftV u c m 0 = 0 := by unfold leftV; rw [Int.zero_mul, Int.zero_ediv]; omega

set_option maxRecDepth 100000 in
set_option maxHeartbeats 2000000 in
theorem left14_any (u c m t : Int) (w : World) (u0 : 1 ≤ u) (u1 : u ≤ 1073741824) (hc : 1 ≤ c ∧ c ≤ 1099511627776) (m0 : 0 ≤ m) (m1 : m ≤ 9007199254740991) (t0 : 0 ≤ t) (t1 : t ≤ 9007199254740991) :
    Calls Try.prog 104 #[.int .i64 u, .int .i64 c, .int .i64 m, .int .i64 t] w fun e w' => e = .returned (.int .i64 (leftV u c m t)) ∧ Below w.heap.size w w' := by
  have hnew := Lib.hid (show BS.newE u 0 = 0 by unfold BS.newE; rw [if_pos ⟨⟨u0, u1⟩, rfl⟩])
  go_enter Try.func104, Try.ntmps104
  go_wp2_with fail
  refine (new_pk hnew.out (Gr.refl w)).mono ?_
  rintro e w1 ⟨p, rfl, h1⟩
  go_wp2_with fail
  go_loopw [11] (fun r wr => ∃ (R : Int) (b : Nat) (s : BS), r = .int .i64 R ∧ 0 ≤ R ∧ R ≤ u ∧ Em u R s ∧ PK p b s 0 1 w.heap.size w wr) (fun r _ => (intOf r).toNat)
  case atStart => exact ⟨u, _, _, rfl, by omega, Int.le_refl _, em_start u0 u1, h1⟩
  case round =>
    obtain ⟨R, b, s, rfl, r0, r1, hem, hpk⟩ := hrel
    clear h1
    have HP := Lib.hid hpk
    clear hpk
    by_cases hr : 0 < R
    · obtain ⟨e1, e2⟩ := em_send hem hr
      have E1 := Lib.hid e1; have E2 := Lib.hid e2
      clear e1 e2 hem
      obtain ⟨z, hz⟩ : ∃ z, min R 65535 = z := ⟨_, rfl⟩
      have z0 : 1 ≤ z := by omega
      have z1 : z ≤ R := by omega
      rw [hz] at E1 E2
      go_wp2_with (first | (go_at_call 94; refine (send_pk 0 E1.out rfl HP.out).mono ?_; rintro e w2 ⟨b', rfl, h2, _⟩))
      go_roundw
      case rel => exact ⟨R - z, _, _, rfl, by omega, by omega, E2.out, h2⟩
      case measure => simp [intOf]; omega
    · have : R = 0 := by omega
      subst this
      obtain ⟨f1, f2⟩ := em_fill hem
      have so : setOk 0 c m = true := by
        unfold setOk; rw [isNum_yes m0 m1, decide_eq_true hc]; rfl
      have s1 : s.setE 0 1 0 c m = 0 := by unfold BS.setE; rw [if_pos so, f1]
      have s2 : s.setS 0 1 0 c m = s.fill 0 0 1 := by unfold BS.setS; rw [if_pos s1]
      have s3 : s.setX 0 1 0 c m = 5 * c := by unfold BS.setX; rw [if_pos s1]
      have s4 : s.setY 0 1 0 c m = denP m := by unfold BS.setY; rw [if_pos s1]
      have l0 := em_left f2 (m := m) hc (Int.le_refl 0) (by omega)
      rw [leftV_zero (by omega)] at l0
      have l1 := em_left f2 (m := m) hc t0 t1
      have S1 := Lib.hid s1; have S2 := Lib.hid s2; have S3 := Lib.hid s3; have S4 := Lib.hid s4; have L0 := Lib.hid l0; have L1 := Lib.hid l1
      clear f1 f2 s1 s2 s3 s4 l0 l1 so hem
      go_wp2_with fail
      refine (set_pk 0 S1.out S2.out S3.out S4.out HP.out).mono ?_
      rintro e w2 ⟨rfl, h2, _⟩
      go_wp2_with fail
      refine (left_pk 0 L0.out h2).mono ?_
      rintro e w3 ⟨rfl, h3, _⟩
      go_wp2_with fail
      refine (left_pk (leftV u c m t) L1.out h3).mono ?_
      rintro e w4 ⟨rfl, h4, _⟩
      go_wp2_with fail
      go_ret
      exact ⟨rfl, h4.gr.1⟩

theorem denP_mono {m l : Int} (h : m ≤ l) : denP m ≤ denP l := by unfold denP; omega
theorem denP_pos (m : Int) : 1 ≤ denP m := by unfold denP; omega
theorem leftV_lo {u c m t : Int} (u0 : 0 ≤ u) (c0 : 0 ≤ c) (t0 : 0 ≤ t) : 0 ≤ leftV u c m t := by
  have := denP_pos m
  have h : 0 ≤ t * (5 * c) / denP m := Int.ediv_nonneg (Int.mul_nonneg t0 (by omega)) (by omega)
  unfold leftV; omega
theorem leftV_hi (u c m t : Int) : leftV u c m t ≤ u := by unfold leftV; omega
theorem leftV_more {u c d m t : Int} (t0 : 0 ≤ t) (h : c ≤ d) : leftV u c m t ≤ leftV u d m t := by
  have := denP_pos m
  have h1 : t * (5 * c) / denP m ≤ t * (5 * d) / denP m := Int.ediv_le_ediv (by omega) (Int.mul_le_mul_of_nonneg_left (by omega) t0)
  unfold leftV; omega
theorem leftV_longer {u c m l t : Int} (c0 : 0 ≤ c) (t0 : 0 ≤ t) (h : m ≤ l) : leftV u c l t ≤ leftV u c m t := by
  have h1 := div_anti (p := t * (5 * c)) (Int.mul_nonneg t0 (by omega)) (by have := denP_pos m; omega : 0 < denP m) (denP_mono h)
  unfold leftV; omega
theorem leftV_steady {c m k : Int} (c0 : 1 ≤ c) (c1 : c ≤ 262144) (m0 : 1 ≤ m) (m1 : m ≤ 1099511627776) (k0 : 1 ≤ k) (k1 : k ≤ 20) : leftV 8388608 c m (m * k) = 5 * c * k / 4 := by
  have d : denP m = m * 4 := by unfold denP; omega
  have e : m * k * (5 * c) = m * (5 * c * k) := by grind
  have q : m * k * (5 * c) / denP m = 5 * c * k / 4 := by rw [d, e, Int.mul_ediv_mul_of_pos _ _ (by omega)]
  have b : 5 * c * k ≤ 5 * 262144 * 20 := Int.mul_le_mul (by omega) k1 (by omega) (by omega)
  unfold leftV
  rw [q]; omega

end Go.Proofs.Ytcholjdbmmgakaa
