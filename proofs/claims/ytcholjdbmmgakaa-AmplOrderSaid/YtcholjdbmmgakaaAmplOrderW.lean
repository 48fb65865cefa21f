/- The walk of AmplOrder. -/
import Derived.Test.YtcholjdbmmgakaaAmplValidW
import Derived.Deep.RegionWith
namespace Go.Proofs.Ytcholjdbmmgakaa
open Go.RowKit Sat

/-- A sum of the first k. -/
def sumTo (f : Nat → Int) : Nat → Int
  | 0 => 0
  | k + 1 => sumTo f k + f k
theorem sumTo_rev (f : Nat → Int) (n : Nat) : ∀ k, k ≤ n → sumTo (fun j => f (n - 1 - j)) k = sumTo f n - sumTo f (n - k)
  | 0, _ => by simp [sumTo]
  | k + 1, h => by
    have ih := sumTo_rev f n k (by omega)
    obtain ⟨m, hm⟩ : ∃ m, n - k = m + 1 := ⟨n - k - 1, by omega⟩
    have e1 : n - (k + 1) = m := by omega
    have e2 : n - 1 - k = m := by omega
    show sumTo (fun j => f (n - 1 - j)) k + f (n - 1 - k) = _
    rw [ih, hm, e1, e2]
    show sumTo f n - (sumTo f m + f m) + f m = _
    omega
theorem sumTo_all (f : Nat → Int) (n : Nat) : sumTo (fun j => f (n - 1 - j)) n = sumTo f n := by
  rw [sumTo_rev f n n (Nat.le_refl _), Nat.sub_self]; simp [sumTo]
theorem sumTo_bd (f : Nat → Int) (h : ∀ j, 0 ≤ f j ∧ f j ≤ 65535) : ∀ k : Nat, 0 ≤ sumTo f k ∧ sumTo f k ≤ k * 65535
  | 0 => by simp [sumTo]
  | k + 1 => by
    have ih := sumTo_bd f h k; have hk := h k
    show 0 ≤ sumTo f k + f k ∧ sumTo f k + f k ≤ _
    push_cast; omega

/-- Two validated limits in memory of the call's own. -/
def AW2 (a b : Nat) (ga sa gb sb : Int) (B : Nat) (w0 w : World) : Prop := AW a ga sa true B w0 w ∧ AW b gb sb true B w0 w ∧ a ≠ b
section
variable {a b : Nat} {ga sa gb sb : Int} {B : Nat} {w0 w w' : World}
theorem AW2.gr (h : AW2 a b ga sa gb sb B w0 w) : Gr B w0 w := h.1.gr
theorem AW2.drewN (h : AW2 a b ga sa gb sb B w0 w) (n : Nat) : AW2 a b ga sa gb sb B w0 (w.drewN n) := ⟨h.1.drewN n, h.2.1.drewN n, h.2.2⟩
theorem AW2.cha {g s : Int} (h : AW2 a b ga sa gb sb B w0 w) (c : Ch a w w') (l : Lim a g s true w') : AW2 a b g s gb sb B w0 w' :=
  ⟨h.1.ch c l, ⟨c.at (Ne.symm h.2.2) h.2.1.1, h.2.1.2.1.ch c h.1.2.2, h.2.1.2.2⟩, h.2.2⟩
theorem AW2.chb {g s : Int} (h : AW2 a b ga sa gb sb B w0 w) (c : Ch b w w') (l : Lim b g s true w') : AW2 a b ga sa g s B w0 w' :=
  ⟨⟨c.at h.2.2 h.1.1, h.1.2.1.ch c h.2.1.2.2, h.1.2.2⟩, h.2.1.ch c l, h.2.2⟩
theorem gota (n : Int) (h : AW2 a b ga sa gb sb B w0 w) : Calls Try.prog 58 #[.pointer (some ⟨a, 0, none⟩), .int .i64 n] w fun e w' => e = .returned (.int .i64 (gotE n)) ∧ AW2 a b (gotG ga n) sa gb sb B w0 w' :=
  (amplGot_any a ga sa true n w h.1.1).mono fun _ _ ⟨he, hl, hc⟩ => ⟨he, h.cha hc hl⟩
theorem gotb (n : Int) (h : AW2 a b ga sa gb sb B w0 w) : Calls Try.prog 58 #[.pointer (some ⟨b, 0, none⟩), .int .i64 n] w fun e w' => e = .returned (.int .i64 (gotE n)) ∧ AW2 a b ga sa (gotG gb n) sb B w0 w' :=
  (amplGot_any b gb sb true n w h.2.1.1).mono fun _ _ ⟨he, hl, hc⟩ => ⟨he, h.chb hc hl⟩
theorem senta (n : Int) (h : AW2 a b ga sa gb sb B w0 w) : Calls Try.prog 59 #[.pointer (some ⟨a, 0, none⟩), .int .i64 n] w fun e w' => e = .returned (.int .i64 (sentE ga sa true n)) ∧ AW2 a b ga (sentS ga sa true n) gb sb B w0 w' :=
  (amplSent_any a ga sa true n w h.1.1).mono fun _ _ ⟨he, hl, hc⟩ => ⟨he, h.cha hc hl⟩
theorem sentb (n : Int) (h : AW2 a b ga sa gb sb B w0 w) : Calls Try.prog 59 #[.pointer (some ⟨b, 0, none⟩), .int .i64 n] w fun e w' => e = .returned (.int .i64 (sentE gb sb true n)) ∧ AW2 a b ga sa gb (sentS gb sb true n) B w0 w' :=
  (amplSent_any b gb sb true n w h.2.1.1).mono fun _ _ ⟨he, hl, hc⟩ => ⟨he, h.chb hc hl⟩
theorem totalsa (h : AW2 a b ga sa gb sb B w0 w) : Calls Try.prog 60 #[.pointer (some ⟨a, 0, none⟩)] w fun e w' => e = .returned (.tuple #[.int .i64 ga, .int .i64 sa]) ∧ AW2 a b ga sa gb sb B w0 w' :=
  (amplTotals_any a ga sa true w h.1.1).mono fun _ _ ⟨he, n, hw⟩ => ⟨he, hw ▸ h.drewN n⟩
theorem totalsb (h : AW2 a b ga sa gb sb B w0 w) : Calls Try.prog 60 #[.pointer (some ⟨b, 0, none⟩)] w fun e w' => e = .returned (.tuple #[.int .i64 gb, .int .i64 sb]) ∧ AW2 a b ga sa gb sb B w0 w' :=
  (amplTotals_any b gb sb true w h.2.1.1).mono fun _ _ ⟨he, n, hw⟩ => ⟨he, hw ▸ h.drewN n⟩
end

theorem tdiv3_ok {v : Int} (h : okI v) : -3074457345618258603 ≤ v.tdiv 3 ∧ v.tdiv 3 ≤ 3074457345618258602 := by
  obtain ⟨h0, h1⟩ := h
  rcases Int.lt_or_le v 0 with h | h
  · have e := Int.tdiv_eq_ediv_of_nonneg (a := -v) (b := 3) (by omega)
    rw [Int.neg_tdiv] at e; omega
  · rw [Int.tdiv_eq_ediv_of_nonneg h]; omega
theorem gotG_t {g n : Int} (h0 : 0 ≤ n) (h1 : n ≤ 65535) (g0 : 0 ≤ g) (g1 : g + n ≤ 9007199254740991) : gotG g n = g + n := gotG_yes h0 h1 g0 g1

set_option maxRecDepth 100000 in
set_option maxHeartbeats 4000000 in
theorem amplOrder_none (w : World) (a0 : Option Addr) (cap : Nat) :
    Calls Try.prog 11 #[.slice a0 0 cap] w fun e w' => e = .returned (.bool true) ∧ Below w.heap.size w w' := by
  have hm : min (0 : Int) 40 = 0 := by decide
  have g := Gr.refl w
  go_enter Try.func11, Try.ntmps11
  go_wp2_with fail
  refine (new_aw _ g).mono ?_
  rintro e w1 ⟨rfl, g1⟩
  go_wp2_with fail
  refine (amplNew_any _ _).mono ?_
  rintro e w2 ⟨rfl, g2, g3⟩
  have h2 : AW2 w.heap.size w1.heap.size 0 0 0 0 w.heap.size w w2 := ⟨g1.step g3, ⟨g2, g1.gr.step g3, g1.gr.2⟩, Nat.ne_of_lt (lt_of_block g1.1)⟩
  clear g2 g3
  go_wp2_with fail
  go_loopw [5] (fun i wr => i = .int .i64 0 ∧ wr = w2) (fun _ _ => 0)
  case atStart => exact ⟨rfl, rfl⟩
  case round =>
    obtain ⟨rfl, rfl⟩ := hrel
    have haw := h2
    have hne : w.heap.size ≠ w1.heap.size := haw.2.2
    go_wp2_with (first | (go_at_call_of 60 (Value.pointer (some ⟨w.heap.size, 0, none⟩)); refine (totalsa haw).mono ?_; rintro e wx ⟨rfl, hx⟩) | (go_at_call_of 60 (Value.pointer (some ⟨w1.heap.size, 0, none⟩)); refine (totalsb hx).mono ?_; rintro e wy ⟨rfl, hy⟩) | (go_at_call 55; refine (works15_any hy.gr).mono ?_; rintro e wz ⟨rfl, hz⟩))
    go_ret
    exact ⟨rfl, hz.1⟩

set_option maxRecDepth 100000 in
set_option maxHeartbeats 4000000 in
theorem amplOrder_some (w : World) (b off len cap : Nat) (zs : List Int) (hb : b < w.heap.size) (hc : ∀ j, j < len → w.cell? ⟨b, off + j, none⟩ = some (.int .i64 (zs.getD j 0))) (hl : len ≤ cap) (hcap : cap ≤ 9223372036854775807) (hz : ∀ n ∈ zs, okI n) :
    Calls Try.prog 11 #[.slice (some ⟨b, off, none⟩) len cap] w fun e w' => e = .returned (.bool true) ∧ Below w.heap.size w w' := by
  have HC := Lib.hid hc; clear hc
  have HZ := Lib.hid hz; clear hz
  obtain ⟨n, hn⟩ : ∃ n : Nat, n = min len 40 := ⟨_, rfl⟩
  have n1 : n ≤ len := by omega
  have n2 : n ≤ 40 := by omega
  have hm : min (len : Int) 40 = (n : Int) := by omega
  clear hn
  have g := Gr.refl w
  go_enter Try.func11, Try.ntmps11
  go_wp2_with fail
  refine (new_aw _ g).mono ?_
  rintro e w1 ⟨rfl, g1⟩
  go_wp2_with fail
  refine (amplNew_any _ _).mono ?_
  rintro e w2 ⟨rfl, g2, g3⟩
  have h2 : AW2 w.heap.size w1.heap.size 0 0 0 0 w.heap.size w w2 := ⟨g1.step g3, ⟨g2, g1.gr.step g3, g1.gr.2⟩, Nat.ne_of_lt (lt_of_block g1.1)⟩
  clear g2 g3
  go_wp2_with fail
  go_loopw [5] (fun i wr => ∃ (k : Nat), k ≤ n ∧ i = .int .i64 k ∧ AW2 w.heap.size w1.heap.size (sumTo (fun j => zs.getD j 0 % 65536) k) (sumTo (fun j => (zs.getD j 0).tdiv 3 % 65536) k) (sumTo (fun j => zs.getD (n - 1 - j) 0 % 65536) k) (sumTo (fun j => (zs.getD (n - 1 - j) 0).tdiv 3 % 65536) k) w.heap.size w wr) (fun i _ => (n - intOf i).toNat)
  case atStart => exact ⟨0, by omega, rfl, h2⟩
  case round =>
    obtain ⟨k, k1, rfl, haw⟩ := hrel
    have m65 : ∀ x : Int, 0 ≤ x % 65536 ∧ x % 65536 ≤ 65535 := fun x => by omega
    by_cases hk : k < n
    · obtain ⟨r, hr⟩ : ∃ r : Nat, r = n - 1 - k := ⟨_, rfl⟩
      have r1 : (n : Int) - 1 - (k : Int) = (r : Int) := by omega
      have r2 : r < n := by omega
      have E1 : sumTo (fun j => zs.getD j 0 % 65536) (k + 1) = sumTo (fun j => zs.getD j 0 % 65536) k + zs.getD k 0 % 65536 := rfl
      have E2 : sumTo (fun j => (zs.getD j 0).tdiv 3 % 65536) (k + 1) = sumTo (fun j => (zs.getD j 0).tdiv 3 % 65536) k + (zs.getD k 0).tdiv 3 % 65536 := rfl
      have E3 : sumTo (fun j => zs.getD (n - 1 - j) 0 % 65536) (k + 1) = sumTo (fun j => zs.getD (n - 1 - j) 0 % 65536) k + zs.getD r 0 % 65536 := by rw [hr]; rfl
      have E4 : sumTo (fun j => (zs.getD (n - 1 - j) 0).tdiv 3 % 65536) (k + 1) = sumTo (fun j => (zs.getD (n - 1 - j) 0).tdiv 3 % 65536) k + (zs.getD r 0).tdiv 3 % 65536 := by rw [hr]; rfl
      have B1 := sumTo_bd (fun j => zs.getD j 0 % 65536) (fun j => m65 _) k
      have B2 := sumTo_bd (fun j => (zs.getD j 0).tdiv 3 % 65536) (fun j => m65 _) k
      have B3 := sumTo_bd (fun j => zs.getD (n - 1 - j) 0 % 65536) (fun j => m65 _) k
      have B4 := sumTo_bd (fun j => (zs.getD (n - 1 - j) 0).tdiv 3 % 65536) (fun j => m65 _) k
      have F1 := Lib.hid E1; have F2 := Lib.hid E2; have F3 := Lib.hid E3; have F4 := Lib.hid E4
      clear E1 E2 E3 E4 m65
      generalize sumTo (fun j => zs.getD j 0 % 65536) k = ga at *
      generalize sumTo (fun j => (zs.getD j 0).tdiv 3 % 65536) k = sa at *
      generalize sumTo (fun j => zs.getD (n - 1 - j) 0 % 65536) k = gb at *
      generalize sumTo (fun j => (zs.getD (n - 1 - j) 0).tdiv 3 % 65536) k = sb at *
      have HR := Lib.hid hr; clear hr
      have HCK := Lib.hid (HC.out k (by omega)); have HCR := Lib.hid (HC.out r (by omega))
      have hv := okI_getD HZ.out k; have hu := okI_getD HZ.out r
      generalize zs.getD k 0 = v at HCK hv F1 F2
      generalize zs.getD r 0 = u at HCR hu F3 F4
      have ck := (haw.gr.1.cell (p := ⟨b, off + k, none⟩) hb).trans HCK.out
      have cr := (haw.gr.1.cell (p := ⟨b, off + r, none⟩) hb).trans HCR.out
      have q0 : (0 : Int) ≤ (k : Int) := by omega
      have q1 : (k : Int) < (n : Int) := by omega
      have q2 : (0 : Int) ≤ (r : Int) := by omega
      have q3 : (r : Int) < (n : Int) := by omega
      obtain ⟨x0, x1⟩ := tdiv3_ok hv
      obtain ⟨y0, y1⟩ := tdiv3_ok hu
      have HV := Lib.hid (fun w => size15_any v w hv); have HU := Lib.hid (fun w => size15_any u w hu)
      have HX := Lib.hid (fun w => size15_any (v.tdiv 3) w ⟨by omega, by omega⟩); have HY := Lib.hid (fun w => size15_any (u.tdiv 3) w ⟨by omega, by omega⟩)
      obtain ⟨vv, evv⟩ : ∃ z, v % 65536 = z := ⟨_, rfl⟩
      obtain ⟨uu, euu⟩ : ∃ z, u % 65536 = z := ⟨_, rfl⟩
      obtain ⟨xx, exx⟩ : ∃ z, v.tdiv 3 % 65536 = z := ⟨_, rfl⟩
      obtain ⟨yy, eyy⟩ : ∃ z, u.tdiv 3 % 65536 = z := ⟨_, rfl⟩
      rw [evv] at F1 HV; rw [exx] at F2 HX; rw [euu] at F3 HU; rw [eyy] at F4 HY
      have v0 : 0 ≤ vv := by omega
      have v1 : vv ≤ 65535 := by omega
      have u0 : 0 ≤ uu := by omega
      have u1 : uu ≤ 65535 := by omega
      have p0 : 0 ≤ xx := by omega
      have p1 : xx ≤ 65535 := by omega
      have s0 : 0 ≤ yy := by omega
      have s1 : yy ≤ 65535 := by omega
      clear evv euu exx eyy
      obtain ⟨dv, hdv⟩ : ∃ d, v.tdiv 3 = d := ⟨_, rfl⟩
      obtain ⟨du, hdu⟩ : ∃ d, u.tdiv 3 = d := ⟨_, rfl⟩
      rw [hdv] at x0 x1 HX; rw [hdu] at y0 y1 HY
      have a1 := gotE_yes v0 v1; have a2 := gotG_t (g := ga) v0 v1 B1.1 (by omega)
      have b1 := gotE_yes u0 u1; have b2 := gotG_t (g := gb) u0 u1 B3.1 (by omega)
      have c1 : ∀ g, sentE g sa true xx = 0 := fun g => sentE_yes p0 p1 (by rw [left_t]; omega)
      have c2 : ∀ g, sentS g sa true xx = sa + xx := fun g => sentS_yes p0 p1 (by rw [left_t]; omega) B2.1 (by omega)
      have d1 : ∀ g, sentE g sb true yy = 0 := fun g => sentE_yes s0 s1 (by rw [left_t]; omega)
      have d2 : ∀ g, sentS g sb true yy = sb + yy := fun g => sentS_yes s0 s1 (by rw [left_t]; omega) B4.1 (by omega)
      have hne : w.heap.size ≠ w1.heap.size := haw.2.2
      go_wp2_with (first | (go_at_call_of 62 (Value.int .i64 v); refine (HV.out _).mono ?_; rintro e w' ⟨rfl, rfl⟩) | (go_at_call_of 62 (Value.int .i64 u); refine (HU.out _).mono ?_; rintro e w' ⟨rfl, rfl⟩) | (go_at_call_of 62 (Value.int .i64 dv); refine (HX.out _).mono ?_; rintro e w' ⟨rfl, rfl⟩) | (go_at_call_of 62 (Value.int .i64 du); refine (HY.out _).mono ?_; rintro e w' ⟨rfl, rfl⟩) | (go_at_call_of 58 (Value.pointer (some ⟨w.heap.size, 0, none⟩)); refine (gota _ haw).mono ?_; rintro e wA ⟨rfl, hA⟩; have ckA := (hA.gr.1.cell (p := ⟨b, off + k, none⟩) hb).trans HCK.out; have crA := (hA.gr.1.cell (p := ⟨b, off + r, none⟩) hb).trans HCR.out) | (go_at_call_of 59 (Value.pointer (some ⟨w.heap.size, 0, none⟩)); refine (senta _ hA).mono ?_; rintro e wB ⟨rfl, hB⟩; have ckB := (hB.gr.1.cell (p := ⟨b, off + k, none⟩) hb).trans HCK.out; have crB := (hB.gr.1.cell (p := ⟨b, off + r, none⟩) hb).trans HCR.out) | (go_at_call_of 59 (Value.pointer (some ⟨w1.heap.size, 0, none⟩)); refine (sentb _ hB).mono ?_; rintro e wC ⟨rfl, hC⟩; have ckC := (hC.gr.1.cell (p := ⟨b, off + k, none⟩) hb).trans HCK.out; have crC := (hC.gr.1.cell (p := ⟨b, off + r, none⟩) hb).trans HCR.out) | (go_at_call_of 58 (Value.pointer (some ⟨w1.heap.size, 0, none⟩)); refine (gotb _ hC).mono ?_; rintro e wD ⟨rfl, hD⟩))
      rw [a2, b2, c2, d2] at hD
      go_roundw
      case rel => exact ⟨k + 1, by omega, by go_num, by rw [F1.out, F2.out, F3.out, F4.out]; exact hD⟩
      case measure => simp [intOf]; omega
    · obtain rfl : k = n := by omega
      have z1 : sumTo (fun j => zs.getD (k - 1 - j) 0 % 65536) k = sumTo (fun j => zs.getD j 0 % 65536) k := sumTo_all (fun j => zs.getD j 0 % 65536) k
      have z2 : sumTo (fun j => (zs.getD (k - 1 - j) 0).tdiv 3 % 65536) k = sumTo (fun j => (zs.getD j 0).tdiv 3 % 65536) k := sumTo_all (fun j => (zs.getD j 0).tdiv 3 % 65536) k
      rw [z1, z2] at haw
      clear z1 z2 m65
      generalize sumTo (fun j => zs.getD j 0 % 65536) k = ga at *
      generalize sumTo (fun j => (zs.getD j 0).tdiv 3 % 65536) k = sa at *
      have hne : w.heap.size ≠ w1.heap.size := haw.2.2
      go_wp2_with (first | (go_at_call_of 60 (Value.pointer (some ⟨w.heap.size, 0, none⟩)); refine (totalsa haw).mono ?_; rintro e wx ⟨rfl, hx⟩) | (go_at_call_of 60 (Value.pointer (some ⟨w1.heap.size, 0, none⟩)); refine (totalsb hx).mono ?_; rintro e wy ⟨rfl, hy⟩) | (go_at_call 55; refine (works15_any hy.gr).mono ?_; rintro e wz ⟨rfl, hz⟩))
      go_ret
      exact ⟨rfl, hz.1⟩

theorem amplOrder_walk (w : World) (a : Option Addr) (len cap : Nat) (zs : List Int) (hr : Row 1 w a len zs) (hl : len ≤ cap ∧ cap ≤ 9223372036854775807) (hz : ∀ n ∈ zs, okI n) :
    Calls Try.prog 11 #[.slice a len cap] w fun e w' => e = .returned (.bool true) ∧ Below w.heap.size w w' := by
  rcases hr with ⟨rfl, _⟩ | ⟨b, off, rfl, hb, _, hc⟩
  · exact amplOrder_none w a cap
  · exact amplOrder_some w b off len cap zs hb (fun j hj => hc j (by omega)) hl.1 hl.2 hz

end Go.Proofs.Ytcholjdbmmgakaa
