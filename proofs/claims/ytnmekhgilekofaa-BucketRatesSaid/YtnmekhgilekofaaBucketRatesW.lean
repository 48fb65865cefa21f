/- The walk of BucketRates. -/
import Derived.Test.YtnmekhgilekofaaBuckRate
import Derived.Sort.AtCall
import Derived.Deep.RegionHeld3
import Derived.Deep.DeepCutAuto
namespace Go.Proofs.Ytnmekhgilekofaa
open Go.RowKit Sat

/-- Two arrays of two numbers in memory of the call's own. -/
structure AR (k j : Nat) (x0 x1 z0 z1 : Int) (B : Nat) (w0 w : World) : Prop where
  x : w.heap[k]? = some (.cells #[.int .i64 x0, .int .i64 x1] 25 (0, 0))
  z : w.heap[j]? = some (.cells #[.int .i64 z0, .int .i64 z1] 25 (0, 0))
  gr : Gr B w0 w
theorem AR.drew {k j : Nat} {x0 x1 z0 z1 : Int} {B : Nat} {w0 w : World} (h : AR k j x0 x1 z0 z1 B w0 w) : AR k j x0 x1 z0 z1 B w0 w.drew := ⟨h.x, h.z, h.gr.drew⟩
theorem AR.step {k j : Nat} {x0 x1 z0 z1 : Int} {B : Nat} {w0 w w' : World} (h : AR k j x0 x1 z0 z1 B w0 w) (b : Below w.heap.size w w') : AR k j x0 x1 z0 z1 B w0 w' := ⟨at_old b (lt_of_block h.x) h.x, at_old b (lt_of_block h.z) h.z, h.gr.step b⟩
theorem AR.alloc {k j : Nat} {x0 x1 z0 z1 : Int} {B : Nat} {w0 w : World} {o : Obj} (h : AR k j x0 x1 z0 z1 B w0 w) : AR k j x0 x1 z0 z1 B w0 (w.alloc o) := h.step ((Below.refl _ _).alloc (Nat.le_refl _) _)
theorem AR.hold {k j : Nat} {x0 x1 z0 z1 : Int} {B : Nat} {w0 w : World} (h : AR k j x0 x1 z0 z1 B w0 w) : w.cell? ⟨k, 0, none⟩ = some (.int .i64 x0) ∧ w.cell? ⟨k, 1, none⟩ = some (.int .i64 x1) ∧ w.cell? ⟨j, 0, none⟩ = some (.int .i64 z0) ∧ w.cell? ⟨j, 1, none⟩ = some (.int .i64 z1) ∧ AR k j x0 x1 z0 z1 B w0 w :=
  ⟨cellOf h.x rfl, cellOf h.x rfl, cellOf h.z rfl, cellOf h.z rfl, h⟩

/-- A rate's variable, by its cells. -/
structure Rc (K : Nat) (x y : Int) (w : World) : Prop where
  c0 : w.cell? ⟨K, 0, none⟩ = some (.int .i64 x)
  c1 : w.cell? ⟨K, 1, none⟩ = some (.int .i64 y)
  lt : K < w.heap.size
theorem Rc.ch {K a : Nat} {x y : Int} {w w' : World} (h : Rc K x y w) (c : Ch a w w') (n : K ≠ a) : Rc K x y w' := by
  have e := c.block K h.lt n
  refine ⟨?_, ?_, Nat.lt_of_lt_of_le h.lt c.size⟩
  · rw [← h.c0]; simp only [World.cell?, e]
  · rw [← h.c1]; simp only [World.cell?, e]
theorem Rc.step {K : Nat} {x y : Int} {w w' : World} (h : Rc K x y w) (b : Below w.heap.size w w') : Rc K x y w' :=
  ⟨(b.cell (p := ⟨K, 0, none⟩) h.lt).trans h.c0, (b.cell (p := ⟨K, 1, none⟩) h.lt).trans h.c1, Nat.lt_of_lt_of_le h.lt b.size⟩
theorem Rc.drew {K : Nat} {x y : Int} {w : World} (h : Rc K x y w) : Rc K x y w.drew := ⟨h.c0, h.c1, h.lt⟩
theorem size_set (w : World) (p : Addr) (v : Value) : (w.setCell p v).heap.size = w.heap.size := by simp [World.setCell]
theorem AR.set {k j : Nat} {x0 x1 z0 z1 : Int} {B : Nat} {w0 w : World} (h : AR k j x0 x1 z0 z1 B w0 w) (b i : Nat) (v : Value) (hk : k ≠ b) (hj : j ≠ b) (hB : B ≤ b) : AR k j x0 x1 z0 z1 B w0 (w.setCell ⟨b, i, none⟩ v) :=
  ⟨(Ch.set w b i v).at hk h.x, (Ch.set w b i v).at hj h.z, h.gr.ch (Ch.set w b i v) hB⟩
theorem AR.four {k j : Nat} {x0 x1 z0 z1 : Int} {B : Nat} {w0 w : World} (h : AR k j x0 x1 z0 z1 B w0 w) : w.cell? ⟨k, 0, none⟩ = some (.int .i64 x0) ∧ w.cell? ⟨k, 1, none⟩ = some (.int .i64 x1) ∧ w.cell? ⟨j, 0, none⟩ = some (.int .i64 z0) ∧ w.cell? ⟨j, 1, none⟩ = some (.int .i64 z1) :=
  ⟨cellOf h.x rfl, cellOf h.x rfl, cellOf h.z rfl, cellOf h.z rfl⟩
theorem new_at' {w : World} {k : Nat} {o : Obj} (h : k = w.heap.size) : (w.alloc o).heap[k]? = some o := h ▸ new_at w o
/-- A rate's variable that has only been made. -/
def Zr (k : Nat) (w : World) : Prop := w.heap[k]? = some (.cells #[.int .i64 0, .int .i64 0] 52 (0, 0))
theorem Zr.hold {k : Nat} {w : World} (h : Zr k w) : w.cell? ⟨k, 0, none⟩ = some (.int .i64 0) ∧ w.cell? ⟨k, 1, none⟩ = some (.int .i64 0) ∧ w.frozen? ⟨k, 0, none⟩ = false ∧ w.frozen? ⟨k, 1, none⟩ = false ∧ k < w.heap.size ∧ Hid (Zr k w) := ⟨cellOf h rfl, cellOf h rfl, freeOf h, freeOf h, lt_of_block h, Lib.hid h⟩
theorem Zr.old {k : Nat} {w w' : World} (g : Below w.heap.size w w') (h : w.heap[k]? = some (.cells #[.int .i64 0, .int .i64 0] 52 (0, 0))) : Zr k w' := at_old g (lt_of_block h) h
set_option maxRecDepth 100000 in
set_option maxHeartbeats 16000000 in
theorem bucketRates_walk (x0 x1 : Int) (hx0 : okI x0) (hx1 : okI x1) (z0 z1 : Int) (hz0 : okI z0) (hz1 : okI z1) (d : Int) (hd : okI d) (w : World) :
    Calls Try.prog 6 #[.agg #[.int .i64 x0, .int .i64 x1], .agg #[.int .i64 z0, .int .i64 z1], .int .i64 d] w fun e w' => e = .returned (.bool true) ∧ Below w.heap.size w w' := by
  obtain ⟨p0, p1⟩ := bring_bd x0 16777216 (by omega)
  obtain ⟨q0, q1⟩ := bring_bd x1 1073741824 (by omega)
  obtain ⟨p2, p3⟩ := bring_bd z0 16777216 (by omega)
  obtain ⟨q2, q3⟩ := bring_bd z1 1073741824 (by omega)
  obtain ⟨n0, n1⟩ := bring_bd d 1000 (by omega)
  have HD := Lib.hid (fun w => bring_any d 1000 w hd (by omega) (by omega))
  have HX := Lib.hid (fun w => rate_any x0 x1 w hx0 hx1)
  have HZ := Lib.hid (fun w => rate_any z0 z1 w hz0 hz1)
  obtain ⟨X, hX⟩ : ∃ X, x0 % 16777216 = X := ⟨_, rfl⟩
  obtain ⟨Y, hY⟩ : ∃ Y, 1 + x1 % 1073741824 = Y := ⟨_, rfl⟩
  obtain ⟨X', hX'⟩ : ∃ X', z0 % 16777216 = X' := ⟨_, rfl⟩
  obtain ⟨Y', hY'⟩ : ∃ Y', 1 + z1 % 1073741824 = Y' := ⟨_, rfl⟩
  have y0 : 1 ≤ Y := by omega
  have y1 : Y ≤ 1073741824 := by omega
  have y2 : 1 ≤ Y' := by omega
  have y3 : Y' ≤ 1073741824 := by omega
  obtain ⟨D, hD⟩ : ∃ D, d % 1000 = D := ⟨_, rfl⟩
  rw [hX, hY] at HX
  rw [hX', hY'] at HZ
  rw [hX] at p0 p1
  rw [hX'] at p2 p3
  rw [hD] at HD n0 n1
  clear hX hY hX' hY' hD q0 q1 q2 q3 hx0 hx1 hz0 hz1 hd
  have hm : may X Y = true := may_yes p0 (by omega) y0 (by omega)
  have hm' : may X' Y' = true := may_yes p2 (by omega) y2 (by omega)
  have hn : BS.newE 1073741824 0 = 0 := by decide +kernel
  have te : BS.takeE (BS.new 1073741824 0) 1073741824 = 0 := by decide +kernel
  have ts : BS.taken (BS.new 1073741824 0) 1073741824 = ⟨1073741824, 0, 0, 0, 0, 0⟩ := by decide +kernel
  have ok0 : BS.Ok ⟨1073741824, 0, 0, 0, 0, 0⟩ := by rw [← ts]; exact BS.taken_ok (BS.new_ok hn) _
  have fe : BS.fillE ⟨1073741824, 0, 0, 0, 0, 0⟩ (1 + D) X Y = 0 := BS.fillE_yes (isNum_yes (by omega) (by omega)) hm (by show (0 : Int) ≤ _; omega)
  have fs : BS.filled ⟨1073741824, 0, 0, 0, 0, 0⟩ (1 + D) X Y = BS.fill ⟨1073741824, 0, 0, 0, 0, 0⟩ (1 + D) X Y := BS.filled_yes fe
  have ft := fill_t ok0 (t := 1 + D) (x := X) (y := Y) (by show (0 : Int) ≤ _; omega) (by omega) hm
  have fr := fill_rate ok0 (t := 1 + D) (x := X) (y := Y) (by show (0 : Int) ≤ _; omega) (by omega) hm
  have fok := BS.fill_ok ok0 (t := 1 + D) (x := X) (y := Y) (by omega) (by omega) hm
  have fa := fill_again ok0 (t := 1 + D) (x := X) (y := Y) (by show (0 : Int) ≤ _; omega) (by omega) hm
  generalize BS.fill ⟨1073741824, 0, 0, 0, 0, 0⟩ (1 + D) X Y = S at *
  have ge : S.fillE (1 + D) X Y = 0 := BS.fillE_yes (isNum_yes (by omega) (by omega)) hm (by omega)
  have gs : S.filled (1 + D) X Y = S := by rw [BS.filled_yes ge, fa]
  have ke : S.fillE (1 + D) X' Y' = 0 := BS.fillE_yes (isNum_yes (by omega) (by omega)) hm' (by omega)
  have ks : S.filled (1 + D) X' Y' = ⟨S.b, S.n, if X = X' ∧ Y = Y' then S.r else 0, 1 + D, X', Y'⟩ := by
    rw [BS.filled_yes ke]
    obtain ⟨r1, r2⟩ := fr
    by_cases g : X = X' ∧ Y = Y'
    · rw [if_pos g, ← g.1, ← g.2, fa]
      cases S
      dsimp only at ft r1 r2 ⊢
      rw [ft, r1, r2]
    · rw [if_neg g]
      have h := fill_other fok hm' (by omega)
      rw [ft] at h
      exact h
  have TE := Lib.hid te; have TS := Lib.hid ts; have FE := Lib.hid fe; have FS := Lib.hid fs; have GE := Lib.hid ge; have GS := Lib.hid gs; have KE := Lib.hid ke; have KS := Lib.hid ks; have HN := Lib.hid hn; have FT := Lib.hid ft
  obtain ⟨Sn, hSn⟩ : ∃ v, S.n = v := ⟨_, rfl⟩
  obtain ⟨Sr, hSr⟩ : ∃ v, S.r = v := ⟨_, rfl⟩
  rw [hSn, hSr] at KS
  have SN := Lib.hid hSn; have SR := Lib.hid hSr
  clear te ts fe fs ge gs ke ks hn ft fr fok fa ok0 hm hm' hSn hSr
  have hsz := Lib.hid (show (w.alloc (.cells #[.int .i64 x0, .int .i64 x1] 25 (0, 0))).heap.size = w.heap.size + 1 by simp)
  go_enter Try.func6, Try.ntmps6
  go_upto_region 1 with fail
  have h0 : AR w.heap.size (w.heap.size + 1) x0 x1 z0 z1 w.heap.size w ((w.alloc (.cells #[.int .i64 x0, .int .i64 x1] 25 (0, 0))).alloc (.cells #[.int .i64 z0, .int .i64 z1] 25 (0, 0))) := by
    refine ⟨old_at _ (new_at _ _), ?_, ((Gr.refl w).alloc _).alloc _⟩
    have := new_at (w.alloc (.cells #[.int .i64 x0, .int .i64 x1] 25 (0, 0))) (.cells #[.int .i64 z0, .int .i64 z1] 25 (0, 0))
    rw [hsz.out] at this; exact this
  obtain ⟨c0, c1, c2, c3, hAR⟩ := h0.hold
  clear h0
  have hG0 : Gr w.heap.size w ((w.alloc (.cells #[.int .i64 x0, .int .i64 x1] 25 (0, 0))).alloc (.cells #[.int .i64 z0, .int .i64 z1] 25 (0, 0))) := ((Gr.refl w).alloc _).alloc _
  have HG0 := Lib.hid hG0; clear hG0
  go_cut [7, 8] from 14 to 17 (fun r s wx => ∃ K J, r = .pointer (some ⟨K, 0, none⟩) ∧ s = .pointer (some ⟨J, 0, none⟩) ∧ Rc K X Y wx ∧ Rc J X' Y' wx ∧ K ≠ J ∧ w.heap.size ≤ K ∧ w.heap.size ≤ J ∧ Gr w.heap.size w wx)
  case first =>
    have hB2 : w.heap.size + 2 = ((w.alloc (.cells #[.int .i64 x0, .int .i64 x1] 25 (0, 0))).alloc (.cells #[.int .i64 z0, .int .i64 z1] 25 (0, 0))).heap.size := by simp
    have hB3 : w.heap.size + 3 = (((w.alloc (.cells #[.int .i64 x0, .int .i64 x1] 25 (0, 0))).alloc (.cells #[.int .i64 z0, .int .i64 z1] 25 (0, 0))).alloc (Obj.cells #[.int .i64 0, .int .i64 0] 52 (0, 0))).heap.size := by simp
    have P1 := Lib.hid (new_at' (o := (Obj.cells #[.int .i64 0, .int .i64 0] 52 (0, 0))) hB2)
    have P2 := Lib.hid (old_at (Obj.cells #[.int .i64 0, .int .i64 0] 52 (0, 0)) P1.out)
    have Q2 := Lib.hid (new_at' (o := (Obj.cells #[.int .i64 0, .int .i64 0] 52 (0, 0))) hB3)
    clear hB2 hB3
    go_region_held3 (fun w' => w'.cell? ⟨w.heap.size, 0, none⟩ = some (.int .i64 x0) ∧ w'.cell? ⟨w.heap.size, 1, none⟩ = some (.int .i64 x1) ∧ w'.cell? ⟨w.heap.size + 1, 0, none⟩ = some (.int .i64 z0) ∧ w'.cell? ⟨w.heap.size + 1, 1, none⟩ = some (.int .i64 z1)) (first | (refine ⟨?_, ?_, ?_, ?_⟩ <;> (with_reducible assumption)) | (refine AR.four (B := w.heap.size) (w0 := w) ?_; with_reducible (repeat (first | exact hAZ | exact hAX | exact hAR | refine AR.drew ?_ | refine AR.alloc ?_ | (refine AR.set ?_ _ _ _ ?_ ?_ ?_; rotate_left; omega; omega; omega))); done) | go_simp) (first | (go_at_call_has 28 (Value.agg #[Value.int .i64 x0, Value.int .i64 x1]); refine (HX.out _).mono ?_; rintro e wx ⟨rfl, bx⟩; have hx := AR.step (by repeat (first | exact hAR | apply AR.drew | apply AR.alloc)) bx; obtain ⟨a0, a1, a2, a3, hAX⟩ := hx.hold; have l0x := lt_of_block hAX.x; have l1x := lt_of_block hAX.z; (try (have hk : Zr _ wx := Zr.old bx P1.out; obtain ⟨p0, p1, p2, p3, p4, p5⟩ := hk.hold; clear hk)); (try (have hk : Zr _ wx := Zr.old bx P2.out; obtain ⟨p0, p1, p2, p3, p4, p5⟩ := hk.hold; clear hk)); (try (have hk : Zr _ wx := Zr.old bx Q2.out; obtain ⟨q0, q1, q2, q3, q4, q5⟩ := hk.hold; clear hk))) | (go_at_call_has 28 (Value.agg #[Value.int .i64 z0, Value.int .i64 z1]); refine (HZ.out _).mono ?_; rintro e wz ⟨rfl, bz⟩; have hz := AR.step (by repeat (first | exact hAX | apply AR.drew | apply AR.alloc)) bz; obtain ⟨g0, g1, g2, g3, hAZ⟩ := hz.hold; have l0 := lt_of_block hAZ.x; have l1 := lt_of_block hAZ.z; (try (have hk : Zr _ wz := Zr.old bz p5.out; obtain ⟨r0, r1, r2, r3, r4, r5⟩ := hk.hold; clear hk)); (try (have hk : Zr _ wz := Zr.old bz (old_at (Obj.cells #[.int .i64 0, .int .i64 0] 52 (0, 0)) p5.out); obtain ⟨r0, r1, r2, r3, r4, r5⟩ := hk.hold; clear hk)); (try (have hk : Zr _ wz := Zr.old bz q5.out; obtain ⟨s0, s1, s2, s3, s4, s5⟩ := hk.hold; clear hk)); (try (have hk : Zr _ wz := Zr.old bz (new_at wx (Obj.cells #[.int .i64 0, .int .i64 0] 52 (0, 0))); obtain ⟨m0, m1, m2, m3, m4, m5⟩ := hk.hold; clear hk)); (try (have hk : Zr _ wz := Zr.old bz (old_at (Obj.cells #[.int .i64 0, .int .i64 0] 52 (0, 0)) (new_at wx (Obj.cells #[.int .i64 0, .int .i64 0] 52 (0, 0)))); obtain ⟨m0, m1, m2, m3, m4, m5⟩ := hk.hold; clear hk)); (try (have hk : Zr _ wz := Zr.old bz (new_at' (o := (Obj.cells #[.int .i64 0, .int .i64 0] 52 (0, 0))) (World.size_alloc wx (Obj.cells #[.int .i64 0, .int .i64 0] 52 (0, 0))).symm); obtain ⟨n0, n1, n2, n3, n4, n5⟩ := hk.hold; clear hk))))
    all_goals go_wp2_with fail
    all_goals go_meet
    all_goals refine ⟨_, _, rfl, rfl, ⟨?_, ?_, ?_⟩, ⟨?_, ?_, ?_⟩, ?_, ?_, ?_, ?_⟩
    all_goals (first | omega | (refine AR.gr (k := w.heap.size) (j := w.heap.size + 1) (x0 := x0) (x1 := x1) (z0 := z0) (z1 := z1) ?_; with_reducible (repeat (first | exact hAZ | apply AR.drew | apply AR.alloc | (apply AR.set; rotate_left; omega; omega; omega))); done) | go_simp)
  case rest =>
    obtain ⟨K, J, rfl, rfl, hK, hJ, hne, hKw, hJw, hG⟩ := hcut
    have HKK := Lib.hid hK; have HJJ := Lib.hid hJ; have HGG := Lib.hid hG
    have nK : K ≠ wc.heap.size := Nat.ne_of_lt hK.lt
    have nJ : J ≠ wc.heap.size := Nat.ne_of_lt hJ.lt
    clear hK hJ hG c0 c1 c2 c3 HG0 hAR HX HZ hsz
    have hwr := wrap_i64 (1 + D) (by omega) (by omega)
    go_wp2_with fail
    refine (new_bw 1073741824 0 HGG.out HN.out).mono ?_
    rintro e w1 ⟨rfl, hb, b1⟩
    have hK1 := HKK.out.step b1
    have hJ1 := HJJ.out.step b1
    obtain ⟨A, hA⟩ : ∃ A, wc.heap.size = A := ⟨_, rfl⟩
    rw [hA] at hb nK nJ
    rw [hA]
    clear hA b1 HKK HJJ HGG
    have q0 := hK1.c0
    have q1 := hK1.c1
    go_wp2_with fail
    go_region_held3 (fun w' => w'.cell? ⟨K, 0, none⟩ = some (.int .i64 X) ∧ w'.cell? ⟨K, 1, none⟩ = some (.int .i64 Y)) (first | (refine ⟨?_, ?_⟩ <;> (with_reducible assumption)) | go_simp) (first | (go_at_call 31; refine (take_e 0 TE.out TS.out (by first | exact hb.drew | exact hb)).mono ?_; rintro e w2 ⟨rfl, hb2, c2⟩; have hK2 := Rc.ch (by first | exact hK1.drew | exact hK1) c2 nK; have hJ2 := Rc.ch (by first | exact hJ1.drew | exact hJ1) c2 nJ; have q2 := hK2.c0; have q3 := hK2.c1) | (go_at_call 26; refine (HD.out _).mono ?_; rintro e w' ⟨rfl, rfl⟩) | (go_at_call 29; refine (fill_e 0 FE.out FS.out hb2).mono ?_; rintro e w3 ⟨rfl, hb3, c3⟩; have hK3 := hK2.ch c3 nK; have hJ3 := hJ2.ch c3 nJ; have q4 := hK3.c0; have q5 := hK3.c1))
    go_wp2_with fail
    refine (copy_bw hb3).mono ?_
    rintro e w4 ⟨rfl, hc4, b4⟩
    have hb4 := hb3.step b4
    have hK4 := hK3.step b4
    have hJ4 := hJ3.step b4
    have nAC : A ≠ w3.heap.size := Nat.ne_of_lt hb3.lt
    have nKC : K ≠ w3.heap.size := Nat.ne_of_lt hK3.lt
    have nJC : J ≠ w3.heap.size := Nat.ne_of_lt hJ3.lt
    obtain ⟨C, hC⟩ : ∃ C, w3.heap.size = C := ⟨_, rfl⟩
    rw [hC] at hc4 nAC nKC nJC
    rw [hC]
    clear hC b4 c3 c2
    have k0 := hK4.c0; have k1 := hK4.c1; have j0 := hJ4.c0; have j1 := hJ4.c1
    go_wp2_with (first | (go_at_call 33; refine (rest_e Sr SR.out hb4).mono ?_; rintro e w' ⟨rfl, rfl⟩) | (go_at_call 34; refine (time_e (1 + D) FT.out hb4).mono ?_; rintro e w' ⟨rfl, rfl⟩) | (go_at_call 29; refine (fill_e 0 GE.out GS.out hb4).mono ?_; rintro e w5 ⟨rfl, hb5, c5⟩; have hc5 := hc4.chx c5 hb4.ha nAC.symm; have hK5 := hK4.ch c5 nK; have hJ5 := hJ4.ch c5 nJ; have k2 := hK5.c0; have k3 := hK5.c1; have j2 := hJ5.c0; have j3 := hJ5.c1))
    clear hb4 hc4 hK4 hJ4 k0 k1 j0 j1
    go_wp2_with (first | (go_at_call 33; refine (rest_e Sr SR.out hb5).mono ?_; rintro e w' ⟨rfl, rfl⟩) | (go_at_call_has 30 (Value.pointer (some ⟨A, 0, none⟩)); refine (tokens_e Sn SN.out hb5).mono ?_; rintro e w' ⟨rfl, rfl⟩) | (go_at_call_has 30 (Value.pointer (some ⟨C, 0, none⟩)); refine (tokens_e Sn SN.out hc5).mono ?_; rintro e w' ⟨rfl, rfl⟩) | (go_at_call 29; refine (fill_e 0 KE.out KS.out hc5).mono ?_; rintro e w6 ⟨rfl, hc6, c6⟩; have hb6 := hb5.chx c6 hc5.ha nAC; have hK6 := hK5.ch c6 nKC; have hJ6 := hJ5.ch c6 nJC; have k4 := hK6.c0; have k5 := hK6.c1; have j4 := hJ6.c0; have j5 := hJ6.c1))
    clear hb5 hc5 hK5 hJ5 k2 k3 j2 j3
    have hfin : ∀ v, (if X = X' ∧ Y = Y' then Sr else 0) = v → BS.r ⟨S.b, Sn, if X = X' ∧ Y = Y' then Sr else 0, 1 + D, X', Y'⟩ = v := fun _ h => h
    by_cases hxx : X = X'
    · by_cases hyy : Y = Y'
      · have V := Lib.hid (hfin Sr (if_pos ⟨hxx, hyy⟩))
        subst hxx hyy
        clear hfin
        go_wp2_with (first | (go_at_call_has 30 (Value.pointer (some ⟨C, 0, none⟩)); refine (tokens_e Sn rfl hc6).mono ?_; rintro e w' ⟨rfl, rfl⟩) | (go_at_call_has 30 (Value.pointer (some ⟨A, 0, none⟩)); refine (tokens_e Sn SN.out hb6).mono ?_; rintro e w' ⟨rfl, rfl⟩) | (go_at_call 33; refine (rest_e Sr V.out hc6).mono ?_; rintro e w' ⟨rfl, rfl⟩) | (go_at_call 25; refine (works13_any hc6.gr).mono ?_; rintro e w7 ⟨rfl, h7⟩))
        go_ret
        exact ⟨rfl, h7.1⟩
      · have V := Lib.hid (hfin 0 (if_neg (fun h => hyy h.2)))
        have hb : (Y == Y') = false := beq_eq_false_iff_ne.2 hyy
        subst hxx
        clear hfin
        go_wp2_with (first | (go_at_call_has 30 (Value.pointer (some ⟨C, 0, none⟩)); refine (tokens_e Sn rfl hc6).mono ?_; rintro e w' ⟨rfl, rfl⟩) | (go_at_call_has 30 (Value.pointer (some ⟨A, 0, none⟩)); refine (tokens_e Sn SN.out hb6).mono ?_; rintro e w' ⟨rfl, rfl⟩) | (go_at_call 33; refine (rest_e 0 V.out hc6).mono ?_; rintro e w' ⟨rfl, rfl⟩) | (go_at_call 25; refine (works13_any hc6.gr).mono ?_; rintro e w7 ⟨rfl, h7⟩))
        go_ret
        exact ⟨rfl, h7.1⟩
    · have V := Lib.hid (hfin 0 (if_neg (fun h => hxx h.1)))
      have hb : (X == X') = false := beq_eq_false_iff_ne.2 hxx
      clear hfin
      go_wp2_with (first | (go_at_call_has 30 (Value.pointer (some ⟨C, 0, none⟩)); refine (tokens_e Sn rfl hc6).mono ?_; rintro e w' ⟨rfl, rfl⟩) | (go_at_call_has 30 (Value.pointer (some ⟨A, 0, none⟩)); refine (tokens_e Sn SN.out hb6).mono ?_; rintro e w' ⟨rfl, rfl⟩) | (go_at_call 33; refine (rest_e 0 V.out hc6).mono ?_; rintro e w' ⟨rfl, rfl⟩) | (go_at_call 25; refine (works13_any hc6.gr).mono ?_; rintro e w7 ⟨rfl, h7⟩))
      go_ret
      exact ⟨rfl, h7.1⟩

end Go.Proofs.Ytnmekhgilekofaa
