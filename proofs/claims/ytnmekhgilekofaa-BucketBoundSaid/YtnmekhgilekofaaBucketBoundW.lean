/- The walk of BucketBound. -/
import Derived.Test.YtnmekhgilekofaaOwnRow
import Derived.Deep.RegionHeld3
import Derived.Deep.DeepCutAuto
import Derived.Sort.AtCall
namespace Go.Proofs.Ytnmekhgilekofaa
open Go.RowKit Sat

/-- A bucket, two rows of numbers, the numbers of the rates. -/
structure BX (k : Nat) (x0 x1 x2 x3 x4 x5 : Int) (a : Nat) (s : BS) (v1 v2 : Value) (n1 n2 : Nat) (T M : List Int) (B : Nat) (w0 w : World) : Prop where
  bb : BB a s v1 v2 n1 n2 T M B w0 w
  x6 : X6 k x0 x1 x2 x3 x4 x5 w
section
variable {k : Nat} {x0 x1 x2 x3 x4 x5 : Int} {a : Nat} {s s' : BS} {v1 v2 : Value} {n1 n2 : Nat} {T M : List Int} {B : Nat} {w0 w w' : World}
theorem BX.step (h : BX k x0 x1 x2 x3 x4 x5 a s v1 v2 n1 n2 T M B w0 w) (g : Below w.heap.size w w') : BX k x0 x1 x2 x3 x4 x5 a s v1 v2 n1 n2 T M B w0 w' := ⟨h.bb.step g, at_old g (lt_of_block h.x6) h.x6⟩
theorem BX.alloc {o : Obj} (h : BX k x0 x1 x2 x3 x4 x5 a s v1 v2 n1 n2 T M B w0 w) : BX k x0 x1 x2 x3 x4 x5 a s v1 v2 n1 n2 T M B w0 (w.alloc o) := h.step ((Below.refl _ _).alloc (Nat.le_refl _) _)
theorem BX.drew (h : BX k x0 x1 x2 x3 x4 x5 a s v1 v2 n1 n2 T M B w0 w) : BX k x0 x1 x2 x3 x4 x5 a s v1 v2 n1 n2 T M B w0 w.drew := ⟨h.bb.drew, h.x6⟩
theorem BX.to (h : BX k x0 x1 x2 x3 x4 x5 a s v1 v2 n1 n2 T M B w0 w) (g : BW a s' B w0 w') (c : Ch a w w') : BX k x0 x1 x2 x3 x4 x5 a s' v1 v2 n1 n2 T M B w0 w' := ⟨h.bb.to g c, c.at (neTypes h.x6 h.bb.bw.bk (by decide)) h.x6⟩
theorem BX.app1 {g cap : Nat} {x : Int} (h : BX k x0 x1 x2 x3 x4 x5 a s v1 v2 n1 n2 T M B w0 w) (o : w'.ownsRow B 3 1 (.slice (some ⟨g, 0, none⟩) (n1 + 1) cap) (n1 + 1) (T.map (Value.int .i64) ++ [.int .i64 x])) (q : w.grownBy w' v1.ownBlock) (hat : v1.ownBlock = some g ∨ g = w.heap.size) :
    BX k x0 x1 x2 x3 x4 x5 a s (.slice (some ⟨g, 0, none⟩) (n1 + 1) cap) v2 (n1 + 1) n2 (T ++ [x]) M B w0 w' := ⟨h.bb.app1 o q hat, grownAt h.bb.r1 q h.x6 (by decide)⟩
theorem BX.app2 {g cap : Nat} {x : Int} (h : BX k x0 x1 x2 x3 x4 x5 a s v1 v2 n1 n2 T M B w0 w) (o : w'.ownsRow B 3 1 (.slice (some ⟨g, 0, none⟩) (n2 + 1) cap) (n2 + 1) (M.map (Value.int .i64) ++ [.int .i64 x])) (q : w.grownBy w' v2.ownBlock) (hat : v2.ownBlock = some g ∨ g = w.heap.size) :
    BX k x0 x1 x2 x3 x4 x5 a s v1 (.slice (some ⟨g, 0, none⟩) (n2 + 1) cap) n1 (n2 + 1) T (M ++ [x]) B w0 w' := ⟨h.bb.app2 o q hat, grownAt h.bb.r2 q h.x6 (by decide)⟩
end

/-- What came in behind the i-th, up to ahead of the j-th. -/
def mo (M : List Int) (i j : Nat) : Int := if i < j then pre M j - pre M (i + 1) + ((j : Int) - i - 1) else 0
theorem mo_start (M : List Int) (i : Nat) : mo M i i = 0 := if_neg (Nat.lt_irrefl i)
theorem mo_first (M : List Int) (i : Nat) : mo M i (i + 1) = 0 := by
  unfold mo; rw [if_pos (Nat.lt_succ_self i)]; push_cast; omega
theorem mo_step {M : List Int} {i j : Nat} (h : i < j) (hj : j < M.length) : mo M i (j + 1) = mo M i j + M.getD j 0 + 1 := by
  unfold mo; rw [if_pos h, if_pos (by omega), pre_succ hj]; push_cast; omega
theorem mo_ge {M : List Int} {i j : Nat} (h : i < j) : pre M j - pre M (i + 1) ≤ mo M i j := by
  unfold mo; rw [if_pos h]; omega
theorem mo_bd {n c : Int} {T M : List Int} (h : Bd n c T M) {i j : Nat} (hj : j ≤ M.length) (h40 : M.length ≤ 40) : 0 ≤ mo M i j ∧ mo M i j ≤ 180144028044492800 + 40 := by
  unfold mo
  by_cases q : i < j
  · rw [if_pos q]
    have a := pre_bd h.mb j hj
    have b := pre_bd h.mb (i + 1) (by omega)
    have c := pre_mono (fun x hx => (h.mb x hx).1) (j := i + 1) j (by omega) hj
    omega
  · rw [if_neg q]; omega
theorem pre_dif {n c : Int} {T M : List Int} (h : Bd n c T M) {i j : Nat} (hij : i ≤ j) (hj : j ≤ T.length) (h40 : T.length ≤ 40) (hn : n ≤ 1048576) (hn0 : 0 ≤ n) : 0 ≤ pre T j - pre T i ∧ pre T j - pre T i ≤ 41943040 := by
  have a := pre_bd h.tb j hj
  have b := pre_bd h.tb i (by omega)
  have c := pre_mono (fun x hx => (h.tb x hx).1) (j := i) j hij hj
  have d : (j : Int) * n ≤ 40 * 1048576 := Int.mul_le_mul (by omega) hn hn0 (by omega)
  omega
theorem rtDrew {K : Nat} {x y : Int} {w : World} (h : Rt K x y w) : Rt K x y w.drew := h
theorem rtAlloc {K : Nat} {x y : Int} {w : World} {o : Obj} (h : Rt K x y w) : Rt K x y (w.alloc o) := old_at _ h
theorem rtCells {K : Nat} {x y : Int} {w : World} (h : Rt K x y w) : w.cell? ⟨K, 0, none⟩ = some (.int .i64 x) ∧ w.cell? ⟨K, 1, none⟩ = some (.int .i64 y) := ⟨cell_rt0 h, cell_rt1 h⟩
theorem rate_ex (x0 x1 : Int) (h0 : okI x0) (h1 : okI x1) : ∃ X Y, (∀ w, Calls Try.prog 28 #[.agg #[.int .i64 x0, .int .i64 x1]] w fun e w' => e = .returned (.agg #[.int .i64 X, .int .i64 Y]) ∧ Below w.heap.size w w') ∧ (0 ≤ X ∧ X < 16777216) ∧ (1 ≤ Y ∧ Y ≤ 1073741824) := by
  obtain ⟨p0, p1⟩ := bring_bd x0 16777216 (by omega)
  obtain ⟨q0, q1⟩ := bring_bd x1 1073741824 (by omega)
  exact ⟨_, _, fun w => rate_any x0 x1 w h0 h1, ⟨p0, p1⟩, ⟨by omega, by omega⟩⟩
set_option maxRecDepth 100000 in
set_option maxHeartbeats 4000000 in
theorem bucketBound_none (w : World) (x0 x1 x2 x3 x4 x5 : Int) (u : Int) (hu : okI u) (a0 : Option Addr) (cap : Nat) :
    Calls Try.prog 5 #[.agg #[.int .i64 x0, .int .i64 x1, .int .i64 x2, .int .i64 x3, .int .i64 x4, .int .i64 x5], .int .i64 u, .slice a0 0 cap] w fun e w' => e = .returned (.bool true) ∧ Below w.heap.size w w' := by
  have hm : min (0 : Int) 40 = 0 := by decide
  obtain ⟨u0, u1⟩ := bring_bd u 1048576 (by omega)
  have HU := Lib.hid (fun w => bring_any u 1048576 w hu (by omega) (by omega))
  obtain ⟨U, hU⟩ : ∃ v, u % 1048576 = v := ⟨_, rfl⟩
  rw [hU] at HU u0 u1
  clear hU hu
  have hn : BS.newE (1 + U) 0 = 0 := by unfold BS.newE; rw [if_pos ⟨⟨by omega, by omega⟩, rfl⟩]
  have HN := Lib.hid hn; clear hn
  have H6 := Lib.hid (new_at w (.cells #[.int .i64 x0, .int .i64 x1, .int .i64 x2, .int .i64 x3, .int .i64 x4, .int .i64 x5] 45 (0, 0)))
  go_enter Try.func5, Try.ntmps5
  go_wp2_with fail
  refine (works13_any (Gr.refl _)).mono ?_
  rintro e w1 ⟨rfl, g1⟩
  have h61 : X6 w.heap.size x0 x1 x2 x3 x4 x5 w1 := at_old g1.1 (lt_of_block H6.out) H6.out
  have G1 := Lib.hid (((Gr.refl w).alloc (.cells #[.int .i64 x0, .int .i64 x1, .int .i64 x2, .int .i64 x3, .int .i64 x4, .int .i64 x5] 45 (0, 0))).step g1.1)
  clear g1
  go_wp2_with (first | (go_at_call 26; refine (HU.out _).mono ?_; rintro e w' ⟨rfl, rfl⟩))
  refine (new_bw (1 + U) 0 G1.out HN.out).mono ?_
  rintro e w2 ⟨rfl, hb, b2⟩
  have h62 : X6 w.heap.size x0 x1 x2 x3 x4 x5 w2 := at_old b2 (lt_of_block h61) h61
  obtain ⟨A, hA⟩ : ∃ A, w1.heap.size = A := ⟨_, rfl⟩
  rw [hA] at hb
  rw [hA]
  have hbx : BX w.heap.size x0 x1 x2 x3 x4 x5 A (BS.new (1 + U) 0) (.slice none 0 0) (.slice none 0 0) 0 0 [] [] w.heap.size w w2 := ⟨⟨hb, World.ownsRow_nil _ _ _ _, World.ownsRow_nil _ _ _ _, fun g h => by simp [Value.ownBlock] at h⟩, h62⟩
  clear hA b2 h61 hb G1 H6 h62
  have HBX := Lib.hid hbx; clear hbx
  go_wp2_with fail
  go_loopw [13] (fun i wr => i = .int .i64 0 ∧ wr = w2) (fun _ _ => 0)
  case atStart => exact ⟨rfl, rfl⟩
  case round =>
    obtain ⟨rfl, rfl⟩ := hrel
    go_wp2_with fail
    go_loopw [17] (fun i wq => i = .int .i64 0 ∧ wq = wr) (fun _ _ => 0)
    case atStart => exact ⟨rfl, by first | rfl | trivial⟩
    case round =>
      obtain ⟨rfl, rfl⟩ := hrel
      go_wp2_with fail
      go_ret
      exact ⟨rfl, HBX.out.bb.bw.gr.1⟩

set_option maxRecDepth 100000 in
set_option maxHeartbeats 4000000 in
theorem bucketBound_some (w : World) (x0 x1 x2 x3 x4 x5 : Int) (hx0 : okI x0) (hx1 : okI x1) (hx2 : okI x2) (hx3 : okI x3) (hx4 : okI x4) (hx5 : okI x5) (u : Int) (hu : okI u) (b off len cap : Nat) (zs : List Int) (hb : b < w.heap.size) (hc : ∀ j, j < len * 3 → w.cell? ⟨b, off + j, none⟩ = some (.int .i64 (zs.getD j 0))) (hl : len ≤ cap) (hcap : cap ≤ 9223372036854775807) (hz : ∀ n ∈ zs, okI n) :
    Calls Try.prog 5 #[.agg #[.int .i64 x0, .int .i64 x1, .int .i64 x2, .int .i64 x3, .int .i64 x4, .int .i64 x5], .int .i64 u, .slice (some ⟨b, off, none⟩) len cap] w fun e w' => e = .returned (.bool true) ∧ Below w.heap.size w w' := by
  have HCC := Lib.hid hc; clear hc
  have HZZ := Lib.hid hz; clear hz
  obtain ⟨n, hn⟩ : ∃ n : Nat, n = min len 40 := ⟨_, rfl⟩
  have n1 : n ≤ len := by omega
  have n2 : n ≤ 40 := by omega
  have hm : min (len : Int) 40 = (n : Int) := by omega
  clear hn
  obtain ⟨X0, Y0, hr0, bx0, by0⟩ := rate_ex x0 x1 hx0 hx1
  obtain ⟨X1, Y1, hr1, bx1, by1⟩ := rate_ex x2 x3 hx2 hx3
  obtain ⟨X2, Y2, hr2, bx2, by2⟩ := rate_ex x4 x5 hx4 hx5
  have HR0 := Lib.hid hr0; have HR1 := Lib.hid hr1; have HR2 := Lib.hid hr2
  clear hr0 hr1 hr2 hx0 hx1 hx2 hx3 hx4 hx5
  obtain ⟨u0, u1⟩ := bring_bd u 1048576 (by omega)
  have HU := Lib.hid (fun w => bring_any u 1048576 w hu (by omega) (by omega))
  obtain ⟨U, hU⟩ : ∃ v, u % 1048576 = v := ⟨_, rfl⟩
  rw [hU] at HU u0 u1
  clear hU hu
  have hn : BS.newE (1 + U) 0 = 0 := by unfold BS.newE; rw [if_pos ⟨⟨by omega, by omega⟩, rfl⟩]
  have HN := Lib.hid hn; clear hn
  have H6 := Lib.hid (new_at w (.cells #[.int .i64 x0, .int .i64 x1, .int .i64 x2, .int .i64 x3, .int .i64 x4, .int .i64 x5] 45 (0, 0)))
  go_enter Try.func5, Try.ntmps5
  go_wp2_with fail
  refine (works13_any (Gr.refl _)).mono ?_
  rintro e w1 ⟨rfl, g1⟩
  have h61 : X6 w.heap.size x0 x1 x2 x3 x4 x5 w1 := at_old g1.1 (lt_of_block H6.out) H6.out
  have G1 := Lib.hid (((Gr.refl w).alloc (.cells #[.int .i64 x0, .int .i64 x1, .int .i64 x2, .int .i64 x3, .int .i64 x4, .int .i64 x5] 45 (0, 0))).step g1.1)
  clear g1
  go_wp2_with (first | (go_at_call 26; refine (HU.out _).mono ?_; rintro e w' ⟨rfl, rfl⟩))
  refine (new_bw (1 + U) 0 G1.out HN.out).mono ?_
  rintro e w2 ⟨rfl, hb, b2⟩
  have h62 : X6 w.heap.size x0 x1 x2 x3 x4 x5 w2 := at_old b2 (lt_of_block h61) h61
  obtain ⟨A, hA⟩ : ∃ A, w1.heap.size = A := ⟨_, rfl⟩
  rw [hA] at hb
  rw [hA]
  have hbx : BX w.heap.size x0 x1 x2 x3 x4 x5 A (BS.new (1 + U) 0) (.slice none 0 0) (.slice none 0 0) 0 0 [] [] w.heap.size w w2 := ⟨⟨hb, World.ownsRow_nil _ _ _ _, World.ownsRow_nil _ _ _ _, fun g h => by simp [Value.ownBlock] at h⟩, h62⟩
  clear hA b2 h61 hb G1 H6 h62
  have HBX := Lib.hid hbx; clear hbx
  go_wp2_with fail
  go_loopw [10, 11, 12, 13] (fun t r1 r2 i wr => ∃ (k : Nat) (T : Int) (s : BS) (L M : List Int) (v1 v2 : Value), k ≤ n ∧ t = .int .i64 T ∧ i = .int .i64 k ∧ v1 = r1 ∧ v2 = r2 ∧ 0 ≤ T ∧ T ≤ k * 268435456 ∧ s.b = 1 + U ∧ s.t = T ∧ L.length = k ∧ Bd (1 + U) s.n L M ∧ BX w.heap.size x0 x1 x2 x3 x4 x5 A s v1 v2 k k L M w.heap.size w wr) (fun _ _ _ i _ => (n - intOf i).toNat)
  case atStart => exact ⟨0, 0, BS.new (1 + U) 0, [], [], _, _, by omega, by first | rfl | trivial, by first | rfl | trivial, rfl, rfl, by omega, by omega, rfl, rfl, rfl, Bd.nil _ _, HBX.out⟩
  case round =>
    obtain ⟨k, T, s, L, M, v1, v2, hk, rfl, rfl, rfl, rfl, t0, t1, sb, st, hL, hBd, hbx⟩ := hrel
    have HX := Lib.hid hbx; clear hbx HBX
    have HD := Lib.hid hBd; clear hBd
    by_cases hlt : k < n
    · have HC0 := HCC.out (k * 3) (by omega); have HC1 := HCC.out (k * 3 + 1) (by omega); have HC2 := HCC.out (k * 3 + 2) (by omega)
      have o0 := okI_getD HZZ.out (k * 3); have o1 := okI_getD HZZ.out (k * 3 + 1); have o2 := okI_getD HZZ.out (k * 3 + 2)
      generalize zs.getD (k * 3) 0 = z0 at HC0 o0
      generalize zs.getD (k * 3 + 1) 0 = z1 at HC1 o1
      generalize zs.getD (k * 3 + 2) 0 = z2 at HC2 o2
      have CQ : Hid (∀ w', Gr w.heap.size w w' → w'.cell? ⟨b, off + k * 3, none⟩ = some (.int .i64 z0) ∧ w'.cell? ⟨b, off + k * 3 + 1, none⟩ = some (.int .i64 z1) ∧ w'.cell? ⟨b, off + k * 3 + 2, none⟩ = some (.int .i64 z2)) := Lib.hid fun w' g' => ⟨(g'.1.cell (p := ⟨b, off + (k * 3), none⟩) hb).trans HC0, (g'.1.cell (p := ⟨b, off + (k * 3 + 1), none⟩) hb).trans HC1, (g'.1.cell (p := ⟨b, off + (k * 3 + 2), none⟩) hb).trans HC2⟩
      clear HC0 HC1 HC2
      obtain ⟨b00, b01⟩ := bring_bd z0 268435456 (by omega)
      obtain ⟨b10, b11⟩ := bring_bd z1 3 (by omega)
      obtain ⟨b20, b21⟩ := bring_bd z2 (1 + U + 1) (by omega)
      have HB0 := Lib.hid (fun w => bring_any z0 268435456 w o0 (by omega) (by omega))
      have HB1 := Lib.hid (fun w => bring_any z1 3 w o1 (by omega) (by omega))
      have HB2 := Lib.hid (fun w => bring_any z2 (1 + U + 1) w o2 (by omega) (by omega))
      clear o0 o1 o2
      obtain ⟨d, hd⟩ : ∃ v, z0 % 268435456 = v := ⟨_, rfl⟩
      obtain ⟨j, hj⟩ : ∃ v, z1 % 3 = v := ⟨_, rfl⟩
      obtain ⟨q, hq⟩ : ∃ v, z2 % (1 + U + 1) = v := ⟨_, rfl⟩
      rw [hd] at HB0 b00 b01; rw [hj] at HB1 b10 b11; rw [hq] at HB2 b20 b21
      clear hd hj hq
      have q0 : (0 : Int) ≤ (k : Int) := by omega
      have q1 : (k : Int) < (n : Int) := by omega
      obtain ⟨c0, c1, c2⟩ := CQ.out _ HX.out.bb.bw.gr
      go_upto_region 13 with fail
      go_cut [14] from 44 to 52 (fun r wx => ∃ K X Y, r = .pointer (some ⟨K, 0, none⟩) ∧ Rt K X Y wx ∧ (0 ≤ X ∧ X < 16777216) ∧ (1 ≤ Y ∧ Y ≤ 1073741824) ∧ BX w.heap.size x0 x1 x2 x3 x4 x5 A s v1 v2 k k L M w.heap.size w wx)
      case first =>
        have hj3 : j = 0 ∨ j = 1 ∨ j = 2 := by omega
        rcases hj3 with rfl | rfl | rfl
        · skip
          have e0 : wr.cell? ⟨w.heap.size, 0, none⟩ = some (.int .i64 x0) := cellOf HX.out.x6 rfl
          have e1 : wr.cell? ⟨w.heap.size, 1, none⟩ = some (.int .i64 x1) := cellOf HX.out.x6 rfl
          go_wp2_with (first | (go_at_call 26; refine (HB1.out _).mono ?_; rintro e w' ⟨rfl, rfl⟩) | (go_at_call 28; refine (HR0.out _).mono ?_; rintro e wx ⟨rfl, bx⟩))
          go_meet
          exact ⟨_, _, _, rfl, new_at _ _, bx0, by0, (HX.out.step bx).alloc⟩
        · skip
          have e0 : wr.cell? ⟨w.heap.size, 2, none⟩ = some (.int .i64 x2) := cellOf HX.out.x6 rfl
          have e1 : wr.cell? ⟨w.heap.size, 3, none⟩ = some (.int .i64 x3) := cellOf HX.out.x6 rfl
          go_wp2_with (first | (go_at_call 26; refine (HB1.out _).mono ?_; rintro e w' ⟨rfl, rfl⟩) | (go_at_call 28; refine (HR1.out _).mono ?_; rintro e wx ⟨rfl, bx⟩))
          go_meet
          exact ⟨_, _, _, rfl, new_at _ _, bx1, by1, (HX.out.step bx).alloc⟩
        · skip
          have e0 : wr.cell? ⟨w.heap.size, 4, none⟩ = some (.int .i64 x4) := cellOf HX.out.x6 rfl
          have e1 : wr.cell? ⟨w.heap.size, 5, none⟩ = some (.int .i64 x5) := cellOf HX.out.x6 rfl
          go_wp2_with (first | (go_at_call 26; refine (HB1.out _).mono ?_; rintro e w' ⟨rfl, rfl⟩) | (go_at_call 28; refine (HR2.out _).mono ?_; rintro e wx ⟨rfl, bx⟩))
          go_meet
          exact ⟨_, _, _, rfl, new_at _ _, bx2, by2, (HX.out.step bx).alloc⟩
      case rest =>
        obtain ⟨K, X, Y, rfl, hrt, ⟨x00, x01⟩, ⟨y00, y01⟩, hbx⟩ := hcut
        clear HX HB1 HR0 HR1 HR2 bx0 bx1 bx2 by0 by1 by2 b10 b11 c0 c1 c2
        have HX := Lib.hid hbx; clear hbx
        have hm' : may X Y = true := may_yes x00 (by omega) y00 (by omega)
        have ho := HX.out.bb.bw.ok
        have fe : s.fillE (T + d) X Y = 0 := BS.fillE_yes (isNum_yes (by omega) (by omega)) hm' (by omega)
        have fs : s.filled (T + d) X Y = s.fill (T + d) X Y := BS.filled_yes fe
        have fok : (s.fill (T + d) X Y).Ok := BS.fill_ok ho (by omega) (by omega) hm'
        have fb : (s.fill (T + d) X Y).b = 1 + U := (fill_b ho (by omega) (by omega) hm').trans sb
        have ft : (s.fill (T + d) X Y).t = T + d := fill_t ho (by omega) (by omega) hm'
        have fg := fill_gain ho (t := T + d) (x := X) (y := Y) (by omega) (by omega) hm'
        rw [st, show T + d - T = d by omega] at fg
        generalize s.fill (T + d) X Y = s' at fs fok fb ft fg
        obtain ⟨f, hf⟩ : ∃ v, s'.n = v := ⟨_, rfl⟩
        rw [hf] at fg
        have f0 := fok.n0; have f1 := fok.n1
        rw [hf] at f0 f1; rw [fb] at f1
        have p0 : 0 ≤ d * X := Int.mul_nonneg b00 x00
        have p1 : d * X ≤ 268435455 * 16777215 := Int.mul_le_mul (by omega) (by omega) x00 (by omega)
        obtain ⟨P, hP⟩ : ∃ v, d * X = v := ⟨_, rfl⟩
        rw [hP] at p0 p1 fg
        obtain ⟨m, hmm⟩ : ∃ v, (P + Y - 1) / Y = v := ⟨_, rfl⟩
        rw [hmm] at fg
        have m0 : 0 ≤ m := by rw [← hmm]; exact Int.ediv_nonneg (by omega) (by omega)
        have m1 : m ≤ P + Y - 1 := by rw [← hmm]; exact Int.ediv_le_self _ (by omega)
        have FE := Lib.hid fe; have FS := Lib.hid fs; have FB := Lib.hid fb; have FT := Lib.hid ft; have FN := Lib.hid hf; have FO := Lib.hid fok
        have hPd := Lib.hid hP
        have hmd := Lib.hid hmm
        have ST := Lib.hid st; have SB := Lib.hid sb
        clear fe fs fb ft hf fok hP hmm ho hm' st sb
        have wT := wrap_i64 (T + d) (by omega) (by omega)
        have wU := wrap_i64 (1 + U + 1) (by omega) (by omega)
        have nK : K ≠ A := neTypes hrt HX.out.bb.bw.bk (by decide)
        have kr0 := cell_rt0 hrt
        have kr1 := cell_rt1 hrt
        obtain ⟨c0, c1, c2⟩ := CQ.out _ HX.out.bb.bw.gr
        clear c1
        go_wp2_with (first | (go_at_call_has 26 (Value.int .i64 z0); refine (HB0.out _).mono ?_; rintro e w' ⟨rfl, rfl⟩))
        refine (fill_e 0 FE.out FS.out HX.out.bb.bw).mono ?_
        rintro e w3 ⟨rfl, h3, ch3⟩
        have HX3 := Lib.hid (HX.out.to h3 ch3)
        have hr3 : Rt K X Y w3 := ch3.at nK hrt
        have HR3 := Lib.hid hr3
        clear h3 ch3 hrt hr3 kr0 kr1 c0 c2
        obtain ⟨c0, c1, c2⟩ := CQ.out _ HX3.out.bb.bw.gr
        clear c0 c1
        by_cases hqf : f < q
        · have TE1 := Lib.hid (BS.takeE_big (s := s') (k := q) (by rw [FN.out]; exact hqf) b20)
          have TS1 := Lib.hid (BS.taken_no (s := s') (k := q) (by rw [TE1.out]; decide))
          have TE2 := Lib.hid (BS.takeE_yes (s := s') (k := f) f0 (by rw [FN.out]; exact Int.le_refl _))
          have TS2 := Lib.hid (BS.taken_yes TE2.out)
          go_wp2_with (first | (go_at_call 26; refine (HB2.out _).mono ?_; rintro e w' ⟨rfl, rfl⟩) | (go_at_call 30; refine (tokens_e f FN.out HX3.out.bb.bw).mono ?_; rintro e w' ⟨rfl, rfl⟩))
          refine (take_e 5 TE1.out TS1.out HX3.out.bb.bw).mono ?_
          rintro e w4 ⟨rfl, h4, ch4⟩
          have HX4 := Lib.hid (HX3.out.to h4 ch4)
          have HR4 := Lib.hid (show Rt K X Y w4 from ch4.at nK HR3.out)
          clear h4 ch4 c2
          go_wp2_with (first | (go_at_call 30; refine (tokens_e f FN.out HX4.out.bb.bw).mono ?_; rintro e w' ⟨rfl, rfl⟩))
          refine (take_e 0 TE2.out TS2.out HX4.out.bb.bw).mono ?_
          rintro e w5 ⟨rfl, h5, ch5⟩
          have hx5 := HX4.out.to h5 ch5
          have hr5 : Rt K X Y w5 := ch5.at nK HR4.out
          obtain ⟨s5, hs5⟩ : ∃ v : BS, (⟨s'.b, s'.n - f, s'.r, s'.t, s'.num, s'.den⟩ : BS) = v := ⟨_, rfl⟩
          have S5B : Hid (s5.b = 1 + U) := Lib.hid (by rw [← hs5]; exact FB.out)
          have S5T : Hid (s5.t = T + d) := Lib.hid (by rw [← hs5]; exact FT.out)
          have S5N : Hid (s5.n = f - f) := Lib.hid (by rw [← hs5]; show s'.n - f = _; rw [FN.out])
          rw [hs5] at hx5
          have hbd : Bd (1 + U) (f - f) (L ++ [f]) (M ++ [m]) := Bd.snoc HD.out (by omega) f1 (by omega) (by omega) m0 (by omega)
          have HBD := Lib.hid hbd
          clear hbd hs5 h5 ch5
          have kr0 := cell_rt0 hr5
          have kr1 := cell_rt1 hr5
          go_upto_region 25 with fail
          have hY : ¬ Y = 0 := by omega
          have wP := wrap_i64 P (by omega) (by omega)
          have wP1 := wrap_i64 (P + Y) (by omega) (by omega)
          have wP2 := wrap_i64 (P + Y - 1) (by omega) (by omega)
          have wm := wrap_i64 m (by omega) (by omega)
          have hP : d * X = P := hPd.out
          have hm1 : (P + Y - 1).tdiv Y = m := by rw [Int.tdiv_eq_ediv_of_nonneg (by omega)]; exact hmd.out
          obtain ⟨i0, hi, hi0, hi1, hi2⟩ := info_parts infoInt
          have F1 := Lib.hid (rowFresh hx5.bb.r1)
          have F2 := Lib.hid (rowFresh hx5.bb.r2)
          go_region_held3 (fun w' => w'.cell? ⟨K, 0, none⟩ = some (.int .i64 X) ∧ w'.cell? ⟨K, 1, none⟩ = some (.int .i64 Y)) (first | (refine ⟨?_, ?_⟩ <;> (with_reducible assumption)) | exact rtCells (show Rt K X Y _ from by with_reducible (repeat (first | exact rA | exact rB | exact hr5 | apply rtAlloc | apply rtDrew)); first | done | fail)) (first | (refine step_append_lies _ rfl (.tmp 89) (.tmp 91) 22 rfl w.heap.size 3 i0 (.int .i64 0) 1 8 Try.underlying22 hi hi0 hi1 hi2 rfl (by decide) v1 k (L.map (Value.int .i64)) rfl (show BX w.heap.size x0 x1 x2 x3 x4 x5 A s5 v1 v2 k k L M w.heap.size w _ from by with_reducible (repeat (first | exact hXA | exact hXB | exact hx5 | apply BX.alloc | apply BX.drew)); first | done | fail).bb.r1 _ 1 1 [.int .i64 f] rfl rfl (newsCells (t := 3) (by with_reducible (repeat (first | exact newAt' (by first | (simp; done) | fail) | exact HLA | exact HLB | exact HLA1 | exact HLB1 | apply old_at | apply drewAt)); first | done | fail)) (fun x hx => by simp at hx; rcases hx with rfl; rfl) (by decide) (by unfold maxLen; omega) (by omega) (show BX w.heap.size x0 x1 x2 x3 x4 x5 A s5 v1 v2 k k L M w.heap.size w _ from by with_reducible (repeat (first | exact hXA | exact hXB | exact hx5 | apply BX.alloc | apply BX.drew)); first | done | fail).bb.bw.gr.2 _ rfl ?_; intro gA capA wA oA kA hatA ltA; have hXA := BX.app1 (show BX w.heap.size x0 x1 x2 x3 x4 x5 A s5 v1 v2 k k L M w.heap.size w _ from by with_reducible (repeat (first | exact hXA | exact hXB | exact hx5 | apply BX.alloc | apply BX.drew)); first | done | fail) oA kA hatA; have rA : Rt K X Y wA := grownAt (show BX w.heap.size x0 x1 x2 x3 x4 x5 A s5 v1 v2 k k L M w.heap.size w _ from by with_reducible (repeat (first | exact hXA | exact hXB | exact hx5 | apply BX.alloc | apply BX.drew)); first | done | fail).bb.r1 kA (show Rt K X Y _ from by with_reducible (repeat (first | exact rA | exact rB | exact hr5 | apply rtAlloc | apply rtDrew)); first | done | fail) (by decide); have kA0 := cell_rt0 rA; have kA1 := cell_rt1 rA; (try (have HLB := grownFar (b := w5.heap.size) (o := .cells #[.int .i64 m] 3 (0, 0)) (by with_reducible (repeat (first | exact newAt' (by first | (simp; done) | fail) | exact HLA | exact HLB | exact HLA1 | exact HLB1 | apply old_at | apply drewAt)); first | done | fail) kA (F1.out _ (by omega)))); (try (have HLB1 := grownFar (b := w5.heap.size + 1) (o := .cells #[.int .i64 m] 3 (0, 0)) (by with_reducible (repeat (first | exact newAt' (by first | (simp; done) | fail) | exact HLA | exact HLB | exact HLA1 | exact HLB1 | apply old_at | apply drewAt)); first | done | fail) kA (F1.out _ (by omega))))) | (refine step_append_lies _ rfl (.tmp 93) (.tmp 105) 22 rfl w.heap.size 3 i0 (.int .i64 0) 1 8 Try.underlying22 hi hi0 hi1 hi2 rfl (by decide) v2 k (M.map (Value.int .i64)) rfl (show BX w.heap.size x0 x1 x2 x3 x4 x5 A s5 v1 v2 k k L M w.heap.size w _ from by with_reducible (repeat (first | exact hXA | exact hXB | exact hx5 | apply BX.alloc | apply BX.drew)); first | done | fail).bb.r2 _ 1 1 [.int .i64 m] rfl rfl (newsCells (t := 3) (by with_reducible (repeat (first | exact newAt' (by first | (simp; done) | fail) | exact HLA | exact HLB | exact HLA1 | exact HLB1 | apply old_at | apply drewAt)); first | done | fail)) (fun x hx => by simp at hx; rcases hx with rfl; rfl) (by decide) (by unfold maxLen; omega) (by omega) (show BX w.heap.size x0 x1 x2 x3 x4 x5 A s5 v1 v2 k k L M w.heap.size w _ from by with_reducible (repeat (first | exact hXA | exact hXB | exact hx5 | apply BX.alloc | apply BX.drew)); first | done | fail).bb.bw.gr.2 _ rfl ?_; intro gB capB wB oB kB hatB ltB; have hXB := BX.app2 (show BX w.heap.size x0 x1 x2 x3 x4 x5 A s5 v1 v2 k k L M w.heap.size w _ from by with_reducible (repeat (first | exact hXA | exact hXB | exact hx5 | apply BX.alloc | apply BX.drew)); first | done | fail) oB kB hatB; have rB : Rt K X Y wB := grownAt (show BX w.heap.size x0 x1 x2 x3 x4 x5 A s5 v1 v2 k k L M w.heap.size w _ from by with_reducible (repeat (first | exact hXA | exact hXB | exact hx5 | apply BX.alloc | apply BX.drew)); first | done | fail).bb.r2 kB (show Rt K X Y _ from by with_reducible (repeat (first | exact rA | exact rB | exact hr5 | apply rtAlloc | apply rtDrew)); first | done | fail) (by decide); have kB0 := cell_rt0 rB; have kB1 := cell_rt1 rB; (try (have HLA := grownFar (b := w5.heap.size) (o := .cells #[.int .i64 f] 3 (0, 0)) (by with_reducible (repeat (first | exact newAt' (by first | (simp; done) | fail) | exact HLA | exact HLB | exact HLA1 | exact HLB1 | apply old_at | apply drewAt)); first | done | fail) kB (F2.out _ (by omega)))); (try (have HLA1 := grownFar (b := w5.heap.size + 1) (o := .cells #[.int .i64 f] 3 (0, 0)) (by with_reducible (repeat (first | exact newAt' (by first | (simp; done) | fail) | exact HLA | exact HLB | exact HLA1 | exact HLB1 | apply old_at | apply drewAt)); first | done | fail) kB (F2.out _ (by omega))))) | (refine step_append_lies _ rfl (.tmp 89) (.tmp 91) 22 rfl w.heap.size 3 i0 (.int .i64 0) 1 8 Try.underlying22 hi hi0 hi1 hi2 rfl (by decide) v1 k (L.map (Value.int .i64)) rfl (show BX w.heap.size x0 x1 x2 x3 x4 x5 A s5 v1 (.slice (some ⟨gB, 0, none⟩) (k + 1) capB) k (k + 1) L (M ++ [m]) w.heap.size w _ from by with_reducible (repeat (first | exact hXA | exact hXB | exact hx5 | apply BX.alloc | apply BX.drew)); first | done | fail).bb.r1 _ 1 1 [.int .i64 f] rfl rfl (newsCells (t := 3) (by with_reducible (repeat (first | exact newAt' (by first | (simp; done) | fail) | exact HLA | exact HLB | exact HLA1 | exact HLB1 | apply old_at | apply drewAt)); first | done | fail)) (fun x hx => by simp at hx; rcases hx with rfl; rfl) (by decide) (by unfold maxLen; omega) (by omega) (show BX w.heap.size x0 x1 x2 x3 x4 x5 A s5 v1 (.slice (some ⟨gB, 0, none⟩) (k + 1) capB) k (k + 1) L (M ++ [m]) w.heap.size w _ from by with_reducible (repeat (first | exact hXA | exact hXB | exact hx5 | apply BX.alloc | apply BX.drew)); first | done | fail).bb.bw.gr.2 _ rfl ?_; intro gA capA wA oA kA hatA ltA; have hXA := BX.app1 (show BX w.heap.size x0 x1 x2 x3 x4 x5 A s5 v1 (.slice (some ⟨gB, 0, none⟩) (k + 1) capB) k (k + 1) L (M ++ [m]) w.heap.size w _ from by with_reducible (repeat (first | exact hXA | exact hXB | exact hx5 | apply BX.alloc | apply BX.drew)); first | done | fail) oA kA hatA; have rA : Rt K X Y wA := grownAt (show BX w.heap.size x0 x1 x2 x3 x4 x5 A s5 v1 (.slice (some ⟨gB, 0, none⟩) (k + 1) capB) k (k + 1) L (M ++ [m]) w.heap.size w _ from by with_reducible (repeat (first | exact hXA | exact hXB | exact hx5 | apply BX.alloc | apply BX.drew)); first | done | fail).bb.r1 kA (show Rt K X Y _ from by with_reducible (repeat (first | exact rA | exact rB | exact hr5 | apply rtAlloc | apply rtDrew)); first | done | fail) (by decide); have kA0 := cell_rt0 rA; have kA1 := cell_rt1 rA; (try (have HLB := grownFar (b := w5.heap.size) (o := .cells #[.int .i64 m] 3 (0, 0)) (by with_reducible (repeat (first | exact newAt' (by first | (simp; done) | fail) | exact HLA | exact HLB | exact HLA1 | exact HLB1 | apply old_at | apply drewAt)); first | done | fail) kA (F1.out _ (by omega)))); (try (have HLB1 := grownFar (b := w5.heap.size + 1) (o := .cells #[.int .i64 m] 3 (0, 0)) (by with_reducible (repeat (first | exact newAt' (by first | (simp; done) | fail) | exact HLA | exact HLB | exact HLA1 | exact HLB1 | apply old_at | apply drewAt)); first | done | fail) kA (F1.out _ (by omega))))) | (refine step_append_lies _ rfl (.tmp 93) (.tmp 105) 22 rfl w.heap.size 3 i0 (.int .i64 0) 1 8 Try.underlying22 hi hi0 hi1 hi2 rfl (by decide) v2 k (M.map (Value.int .i64)) rfl (show BX w.heap.size x0 x1 x2 x3 x4 x5 A s5 (.slice (some ⟨gA, 0, none⟩) (k + 1) capA) v2 (k + 1) k (L ++ [f]) M w.heap.size w _ from by with_reducible (repeat (first | exact hXA | exact hXB | exact hx5 | apply BX.alloc | apply BX.drew)); first | done | fail).bb.r2 _ 1 1 [.int .i64 m] rfl rfl (newsCells (t := 3) (by with_reducible (repeat (first | exact newAt' (by first | (simp; done) | fail) | exact HLA | exact HLB | exact HLA1 | exact HLB1 | apply old_at | apply drewAt)); first | done | fail)) (fun x hx => by simp at hx; rcases hx with rfl; rfl) (by decide) (by unfold maxLen; omega) (by omega) (show BX w.heap.size x0 x1 x2 x3 x4 x5 A s5 (.slice (some ⟨gA, 0, none⟩) (k + 1) capA) v2 (k + 1) k (L ++ [f]) M w.heap.size w _ from by with_reducible (repeat (first | exact hXA | exact hXB | exact hx5 | apply BX.alloc | apply BX.drew)); first | done | fail).bb.bw.gr.2 _ rfl ?_; intro gB capB wB oB kB hatB ltB; have hXB := BX.app2 (show BX w.heap.size x0 x1 x2 x3 x4 x5 A s5 (.slice (some ⟨gA, 0, none⟩) (k + 1) capA) v2 (k + 1) k (L ++ [f]) M w.heap.size w _ from by with_reducible (repeat (first | exact hXA | exact hXB | exact hx5 | apply BX.alloc | apply BX.drew)); first | done | fail) oB kB hatB; have rB : Rt K X Y wB := grownAt (show BX w.heap.size x0 x1 x2 x3 x4 x5 A s5 (.slice (some ⟨gA, 0, none⟩) (k + 1) capA) v2 (k + 1) k (L ++ [f]) M w.heap.size w _ from by with_reducible (repeat (first | exact hXA | exact hXB | exact hx5 | apply BX.alloc | apply BX.drew)); first | done | fail).bb.r2 kB (show Rt K X Y _ from by with_reducible (repeat (first | exact rA | exact rB | exact hr5 | apply rtAlloc | apply rtDrew)); first | done | fail) (by decide); have kB0 := cell_rt0 rB; have kB1 := cell_rt1 rB; (try (have HLA := grownFar (b := w5.heap.size) (o := .cells #[.int .i64 f] 3 (0, 0)) (by with_reducible (repeat (first | exact newAt' (by first | (simp; done) | fail) | exact HLA | exact HLB | exact HLA1 | exact HLB1 | apply old_at | apply drewAt)); first | done | fail) kB (F2.out _ (by omega)))); (try (have HLA1 := grownFar (b := w5.heap.size + 1) (o := .cells #[.int .i64 f] 3 (0, 0)) (by with_reducible (repeat (first | exact newAt' (by first | (simp; done) | fail) | exact HLA | exact HLB | exact HLA1 | exact HLB1 | apply old_at | apply drewAt)); first | done | fail) kB (F2.out _ (by omega))))))
          all_goals go_wp2_with fail
          all_goals (
            go_roundw
            case rel => first | exact ⟨k + 1, T + d, s5, L ++ [f], M ++ [m], _, _, by omega, by go_num, by go_num, rfl, rfl, by omega, by push_cast; omega, S5B.out, S5T.out, by rw [List.length_append, hL]; rfl, by rw [S5N.out]; exact HBD.out, hXB⟩ | exact ⟨k + 1, T + d, s5, L ++ [f], M ++ [m], _, _, by omega, by go_num, by go_num, rfl, rfl, by omega, by push_cast; omega, S5B.out, S5T.out, by rw [List.length_append, hL]; rfl, by rw [S5N.out]; exact HBD.out, hXA⟩
            case measure => simp [intOf]; omega)
        · have TE1 := Lib.hid (BS.takeE_yes (s := s') (k := q) b20 (by rw [FN.out]; omega))
          have TS1 := Lib.hid (BS.taken_yes TE1.out)
          have hqf' : ¬ f < q := hqf
          go_wp2_with (first | (go_at_call 26; refine (HB2.out _).mono ?_; rintro e w' ⟨rfl, rfl⟩) | (go_at_call 30; refine (tokens_e f FN.out HX3.out.bb.bw).mono ?_; rintro e w' ⟨rfl, rfl⟩))
          refine (take_e 0 TE1.out TS1.out HX3.out.bb.bw).mono ?_
          rintro e w5 ⟨rfl, h5, ch5⟩
          have hx5 := HX3.out.to h5 ch5
          have hr5 : Rt K X Y w5 := ch5.at nK HR3.out
          obtain ⟨s5, hs5⟩ : ∃ v : BS, (⟨s'.b, s'.n - q, s'.r, s'.t, s'.num, s'.den⟩ : BS) = v := ⟨_, rfl⟩
          have S5B : Hid (s5.b = 1 + U) := Lib.hid (by rw [← hs5]; exact FB.out)
          have S5T : Hid (s5.t = T + d) := Lib.hid (by rw [← hs5]; exact FT.out)
          have S5N : Hid (s5.n = f - q) := Lib.hid (by rw [← hs5]; show s'.n - q = _; rw [FN.out])
          rw [hs5] at hx5
          have hbd : Bd (1 + U) (f - q) (L ++ [q]) (M ++ [m]) := Bd.snoc HD.out (by omega) f1 (by omega) (by omega) m0 (by omega)
          have HBD := Lib.hid hbd
          clear hbd hs5 h5 ch5
          have kr0 := cell_rt0 hr5
          have kr1 := cell_rt1 hr5
          go_upto_region 25 with fail
          have hY : ¬ Y = 0 := by omega
          have wP := wrap_i64 P (by omega) (by omega)
          have wP1 := wrap_i64 (P + Y) (by omega) (by omega)
          have wP2 := wrap_i64 (P + Y - 1) (by omega) (by omega)
          have wm := wrap_i64 m (by omega) (by omega)
          have hP : d * X = P := hPd.out
          have hm1 : (P + Y - 1).tdiv Y = m := by rw [Int.tdiv_eq_ediv_of_nonneg (by omega)]; exact hmd.out
          obtain ⟨i0, hi, hi0, hi1, hi2⟩ := info_parts infoInt
          have F1 := Lib.hid (rowFresh hx5.bb.r1)
          have F2 := Lib.hid (rowFresh hx5.bb.r2)
          go_region_held3 (fun w' => w'.cell? ⟨K, 0, none⟩ = some (.int .i64 X) ∧ w'.cell? ⟨K, 1, none⟩ = some (.int .i64 Y)) (first | (refine ⟨?_, ?_⟩ <;> (with_reducible assumption)) | exact rtCells (show Rt K X Y _ from by with_reducible (repeat (first | exact rA | exact rB | exact hr5 | apply rtAlloc | apply rtDrew)); first | done | fail)) (first | (refine step_append_lies _ rfl (.tmp 89) (.tmp 91) 22 rfl w.heap.size 3 i0 (.int .i64 0) 1 8 Try.underlying22 hi hi0 hi1 hi2 rfl (by decide) v1 k (L.map (Value.int .i64)) rfl (show BX w.heap.size x0 x1 x2 x3 x4 x5 A s5 v1 v2 k k L M w.heap.size w _ from by with_reducible (repeat (first | exact hXA | exact hXB | exact hx5 | apply BX.alloc | apply BX.drew)); first | done | fail).bb.r1 _ 1 1 [.int .i64 q] rfl rfl (newsCells (t := 3) (by with_reducible (repeat (first | exact newAt' (by first | (simp; done) | fail) | exact HLA | exact HLB | exact HLA1 | exact HLB1 | apply old_at | apply drewAt)); first | done | fail)) (fun x hx => by simp at hx; rcases hx with rfl; rfl) (by decide) (by unfold maxLen; omega) (by omega) (show BX w.heap.size x0 x1 x2 x3 x4 x5 A s5 v1 v2 k k L M w.heap.size w _ from by with_reducible (repeat (first | exact hXA | exact hXB | exact hx5 | apply BX.alloc | apply BX.drew)); first | done | fail).bb.bw.gr.2 _ rfl ?_; intro gA capA wA oA kA hatA ltA; have hXA := BX.app1 (show BX w.heap.size x0 x1 x2 x3 x4 x5 A s5 v1 v2 k k L M w.heap.size w _ from by with_reducible (repeat (first | exact hXA | exact hXB | exact hx5 | apply BX.alloc | apply BX.drew)); first | done | fail) oA kA hatA; have rA : Rt K X Y wA := grownAt (show BX w.heap.size x0 x1 x2 x3 x4 x5 A s5 v1 v2 k k L M w.heap.size w _ from by with_reducible (repeat (first | exact hXA | exact hXB | exact hx5 | apply BX.alloc | apply BX.drew)); first | done | fail).bb.r1 kA (show Rt K X Y _ from by with_reducible (repeat (first | exact rA | exact rB | exact hr5 | apply rtAlloc | apply rtDrew)); first | done | fail) (by decide); have kA0 := cell_rt0 rA; have kA1 := cell_rt1 rA; (try (have HLB := grownFar (b := w5.heap.size) (o := .cells #[.int .i64 m] 3 (0, 0)) (by with_reducible (repeat (first | exact newAt' (by first | (simp; done) | fail) | exact HLA | exact HLB | exact HLA1 | exact HLB1 | apply old_at | apply drewAt)); first | done | fail) kA (F1.out _ (by omega)))); (try (have HLB1 := grownFar (b := w5.heap.size + 1) (o := .cells #[.int .i64 m] 3 (0, 0)) (by with_reducible (repeat (first | exact newAt' (by first | (simp; done) | fail) | exact HLA | exact HLB | exact HLA1 | exact HLB1 | apply old_at | apply drewAt)); first | done | fail) kA (F1.out _ (by omega))))) | (refine step_append_lies _ rfl (.tmp 93) (.tmp 105) 22 rfl w.heap.size 3 i0 (.int .i64 0) 1 8 Try.underlying22 hi hi0 hi1 hi2 rfl (by decide) v2 k (M.map (Value.int .i64)) rfl (show BX w.heap.size x0 x1 x2 x3 x4 x5 A s5 v1 v2 k k L M w.heap.size w _ from by with_reducible (repeat (first | exact hXA | exact hXB | exact hx5 | apply BX.alloc | apply BX.drew)); first | done | fail).bb.r2 _ 1 1 [.int .i64 m] rfl rfl (newsCells (t := 3) (by with_reducible (repeat (first | exact newAt' (by first | (simp; done) | fail) | exact HLA | exact HLB | exact HLA1 | exact HLB1 | apply old_at | apply drewAt)); first | done | fail)) (fun x hx => by simp at hx; rcases hx with rfl; rfl) (by decide) (by unfold maxLen; omega) (by omega) (show BX w.heap.size x0 x1 x2 x3 x4 x5 A s5 v1 v2 k k L M w.heap.size w _ from by with_reducible (repeat (first | exact hXA | exact hXB | exact hx5 | apply BX.alloc | apply BX.drew)); first | done | fail).bb.bw.gr.2 _ rfl ?_; intro gB capB wB oB kB hatB ltB; have hXB := BX.app2 (show BX w.heap.size x0 x1 x2 x3 x4 x5 A s5 v1 v2 k k L M w.heap.size w _ from by with_reducible (repeat (first | exact hXA | exact hXB | exact hx5 | apply BX.alloc | apply BX.drew)); first | done | fail) oB kB hatB; have rB : Rt K X Y wB := grownAt (show BX w.heap.size x0 x1 x2 x3 x4 x5 A s5 v1 v2 k k L M w.heap.size w _ from by with_reducible (repeat (first | exact hXA | exact hXB | exact hx5 | apply BX.alloc | apply BX.drew)); first | done | fail).bb.r2 kB (show Rt K X Y _ from by with_reducible (repeat (first | exact rA | exact rB | exact hr5 | apply rtAlloc | apply rtDrew)); first | done | fail) (by decide); have kB0 := cell_rt0 rB; have kB1 := cell_rt1 rB; (try (have HLA := grownFar (b := w5.heap.size) (o := .cells #[.int .i64 q] 3 (0, 0)) (by with_reducible (repeat (first | exact newAt' (by first | (simp; done) | fail) | exact HLA | exact HLB | exact HLA1 | exact HLB1 | apply old_at | apply drewAt)); first | done | fail) kB (F2.out _ (by omega)))); (try (have HLA1 := grownFar (b := w5.heap.size + 1) (o := .cells #[.int .i64 q] 3 (0, 0)) (by with_reducible (repeat (first | exact newAt' (by first | (simp; done) | fail) | exact HLA | exact HLB | exact HLA1 | exact HLB1 | apply old_at | apply drewAt)); first | done | fail) kB (F2.out _ (by omega))))) | (refine step_append_lies _ rfl (.tmp 89) (.tmp 91) 22 rfl w.heap.size 3 i0 (.int .i64 0) 1 8 Try.underlying22 hi hi0 hi1 hi2 rfl (by decide) v1 k (L.map (Value.int .i64)) rfl (show BX w.heap.size x0 x1 x2 x3 x4 x5 A s5 v1 (.slice (some ⟨gB, 0, none⟩) (k + 1) capB) k (k + 1) L (M ++ [m]) w.heap.size w _ from by with_reducible (repeat (first | exact hXA | exact hXB | exact hx5 | apply BX.alloc | apply BX.drew)); first | done | fail).bb.r1 _ 1 1 [.int .i64 q] rfl rfl (newsCells (t := 3) (by with_reducible (repeat (first | exact newAt' (by first | (simp; done) | fail) | exact HLA | exact HLB | exact HLA1 | exact HLB1 | apply old_at | apply drewAt)); first | done | fail)) (fun x hx => by simp at hx; rcases hx with rfl; rfl) (by decide) (by unfold maxLen; omega) (by omega) (show BX w.heap.size x0 x1 x2 x3 x4 x5 A s5 v1 (.slice (some ⟨gB, 0, none⟩) (k + 1) capB) k (k + 1) L (M ++ [m]) w.heap.size w _ from by with_reducible (repeat (first | exact hXA | exact hXB | exact hx5 | apply BX.alloc | apply BX.drew)); first | done | fail).bb.bw.gr.2 _ rfl ?_; intro gA capA wA oA kA hatA ltA; have hXA := BX.app1 (show BX w.heap.size x0 x1 x2 x3 x4 x5 A s5 v1 (.slice (some ⟨gB, 0, none⟩) (k + 1) capB) k (k + 1) L (M ++ [m]) w.heap.size w _ from by with_reducible (repeat (first | exact hXA | exact hXB | exact hx5 | apply BX.alloc | apply BX.drew)); first | done | fail) oA kA hatA; have rA : Rt K X Y wA := grownAt (show BX w.heap.size x0 x1 x2 x3 x4 x5 A s5 v1 (.slice (some ⟨gB, 0, none⟩) (k + 1) capB) k (k + 1) L (M ++ [m]) w.heap.size w _ from by with_reducible (repeat (first | exact hXA | exact hXB | exact hx5 | apply BX.alloc | apply BX.drew)); first | done | fail).bb.r1 kA (show Rt K X Y _ from by with_reducible (repeat (first | exact rA | exact rB | exact hr5 | apply rtAlloc | apply rtDrew)); first | done | fail) (by decide); have kA0 := cell_rt0 rA; have kA1 := cell_rt1 rA; (try (have HLB := grownFar (b := w5.heap.size) (o := .cells #[.int .i64 m] 3 (0, 0)) (by with_reducible (repeat (first | exact newAt' (by first | (simp; done) | fail) | exact HLA | exact HLB | exact HLA1 | exact HLB1 | apply old_at | apply drewAt)); first | done | fail) kA (F1.out _ (by omega)))); (try (have HLB1 := grownFar (b := w5.heap.size + 1) (o := .cells #[.int .i64 m] 3 (0, 0)) (by with_reducible (repeat (first | exact newAt' (by first | (simp; done) | fail) | exact HLA | exact HLB | exact HLA1 | exact HLB1 | apply old_at | apply drewAt)); first | done | fail) kA (F1.out _ (by omega))))) | (refine step_append_lies _ rfl (.tmp 93) (.tmp 105) 22 rfl w.heap.size 3 i0 (.int .i64 0) 1 8 Try.underlying22 hi hi0 hi1 hi2 rfl (by decide) v2 k (M.map (Value.int .i64)) rfl (show BX w.heap.size x0 x1 x2 x3 x4 x5 A s5 (.slice (some ⟨gA, 0, none⟩) (k + 1) capA) v2 (k + 1) k (L ++ [q]) M w.heap.size w _ from by with_reducible (repeat (first | exact hXA | exact hXB | exact hx5 | apply BX.alloc | apply BX.drew)); first | done | fail).bb.r2 _ 1 1 [.int .i64 m] rfl rfl (newsCells (t := 3) (by with_reducible (repeat (first | exact newAt' (by first | (simp; done) | fail) | exact HLA | exact HLB | exact HLA1 | exact HLB1 | apply old_at | apply drewAt)); first | done | fail)) (fun x hx => by simp at hx; rcases hx with rfl; rfl) (by decide) (by unfold maxLen; omega) (by omega) (show BX w.heap.size x0 x1 x2 x3 x4 x5 A s5 (.slice (some ⟨gA, 0, none⟩) (k + 1) capA) v2 (k + 1) k (L ++ [q]) M w.heap.size w _ from by with_reducible (repeat (first | exact hXA | exact hXB | exact hx5 | apply BX.alloc | apply BX.drew)); first | done | fail).bb.bw.gr.2 _ rfl ?_; intro gB capB wB oB kB hatB ltB; have hXB := BX.app2 (show BX w.heap.size x0 x1 x2 x3 x4 x5 A s5 (.slice (some ⟨gA, 0, none⟩) (k + 1) capA) v2 (k + 1) k (L ++ [q]) M w.heap.size w _ from by with_reducible (repeat (first | exact hXA | exact hXB | exact hx5 | apply BX.alloc | apply BX.drew)); first | done | fail) oB kB hatB; have rB : Rt K X Y wB := grownAt (show BX w.heap.size x0 x1 x2 x3 x4 x5 A s5 (.slice (some ⟨gA, 0, none⟩) (k + 1) capA) v2 (k + 1) k (L ++ [q]) M w.heap.size w _ from by with_reducible (repeat (first | exact hXA | exact hXB | exact hx5 | apply BX.alloc | apply BX.drew)); first | done | fail).bb.r2 kB (show Rt K X Y _ from by with_reducible (repeat (first | exact rA | exact rB | exact hr5 | apply rtAlloc | apply rtDrew)); first | done | fail) (by decide); have kB0 := cell_rt0 rB; have kB1 := cell_rt1 rB; (try (have HLA := grownFar (b := w5.heap.size) (o := .cells #[.int .i64 q] 3 (0, 0)) (by with_reducible (repeat (first | exact newAt' (by first | (simp; done) | fail) | exact HLA | exact HLB | exact HLA1 | exact HLB1 | apply old_at | apply drewAt)); first | done | fail) kB (F2.out _ (by omega)))); (try (have HLA1 := grownFar (b := w5.heap.size + 1) (o := .cells #[.int .i64 q] 3 (0, 0)) (by with_reducible (repeat (first | exact newAt' (by first | (simp; done) | fail) | exact HLA | exact HLB | exact HLA1 | exact HLB1 | apply old_at | apply drewAt)); first | done | fail) kB (F2.out _ (by omega))))))
          all_goals go_wp2_with fail
          all_goals (
            go_roundw
            case rel => first | exact ⟨k + 1, T + d, s5, L ++ [q], M ++ [m], _, _, by omega, by go_num, by go_num, rfl, rfl, by omega, by push_cast; omega, S5B.out, S5T.out, by rw [List.length_append, hL]; rfl, by rw [S5N.out]; exact HBD.out, hXB⟩ | exact ⟨k + 1, T + d, s5, L ++ [q], M ++ [m], _, _, by omega, by go_num, by go_num, rfl, rfl, by omega, by push_cast; omega, S5B.out, S5T.out, by rw [List.length_append, hL]; rfl, by rw [S5N.out]; exact HBD.out, hXA⟩
            case measure => simp [intOf]; omega)
    · obtain rfl : n = k := by omega
      have q1 : ¬ (n : Int) < (n : Int) := by omega
      clear HR0 HR1 HR2 bx0 bx1 bx2 by0 by1 by2 t0 t1 sb st HCC HZZ
      by_cases hn0 : n = 0
      · have hz0 : ¬ (0 : Int) < (n : Int) := by omega
        go_wp2_with fail
        go_loopw [17] (fun i wq => i = .int .i64 0 ∧ BX w.heap.size x0 x1 x2 x3 x4 x5 A s v1 v2 n n L M w.heap.size w wq) (fun _ _ => 0)
        case atStart => exact ⟨rfl, HX.out⟩
        case round =>
          obtain ⟨rfl, hx⟩ := hrel
          have HY := Lib.hid hx; clear hx HX
          go_wp2_with fail
          go_ret
          exact ⟨rfl, HY.out.bb.bw.gr.1⟩
      · obtain ⟨g1, cap1, rfl, _, _⟩ := World.ownsRow.form HX.out.bb.r1 (by omega)
        obtain ⟨g2, cap2, rfl, _, _⟩ := World.ownsRow.form HX.out.bb.r2 (by omega)
        have hlM : M.length = n := by rw [← HD.out.len]; exact hL
        go_wp2_with fail
        go_loopw [17] (fun iv wq => ∃ i : Nat, i ≤ n ∧ iv = .int .i64 i ∧ BX w.heap.size x0 x1 x2 x3 x4 x5 A s (.slice (some ⟨g1, 0, none⟩) n cap1) (.slice (some ⟨g2, 0, none⟩) n cap2) n n L M w.heap.size w wq) (fun i _ => (n - intOf i).toNat)
        case atStart => exact ⟨0, by omega, by first | rfl | trivial, HX.out⟩
        case round =>
          obtain ⟨i, hi, rfl, hx⟩ := hrel
          clear HX
          have HX := Lib.hid hx; clear hx
          by_cases hin : i < n
          · have qi : (i : Int) < (n : Int) := by omega
            go_wp2_with fail
            go_loopw [18, 19, 20] (fun sv mv jv wq => ∃ j : Nat, i ≤ j ∧ j ≤ n ∧ sv = .int .i64 (pre L j - pre L i) ∧ mv = .int .i64 (1 + U + mo M i j) ∧ jv = .int .i64 j ∧ BX w.heap.size x0 x1 x2 x3 x4 x5 A s (.slice (some ⟨g1, 0, none⟩) n cap1) (.slice (some ⟨g2, 0, none⟩) n cap2) n n L M w.heap.size w wq) (fun _ _ j _ => (n - intOf j).toNat)
            case atStart => exact ⟨i, by omega, by omega, by rw [Int.sub_self], by rw [mo_start, Int.add_zero], by first | rfl | trivial, HX.out⟩
            case round =>
              obtain ⟨j, j1, j2, rfl, rfl, rfl, hx⟩ := hrel
              clear HX
              have HX := Lib.hid hx; clear hx
              by_cases hjn : j < n
              · have r0 : (0 : Int) ≤ (j : Int) := by omega
                have r1 : (j : Int) < (n : Int) := by omega
                have cT := rowCells HX.out.bb.r1 (j := j) (by omega)
                have cM := rowCells HX.out.bb.r2 (j := j) (by omega)
                have d0 := pre_dif HD.out (i := i) (j := j) j1 (by omega) (by omega) (by omega) (by omega)
                have d1 := pre_dif HD.out (i := i) (j := j + 1) (by omega) (by omega) (by omega) (by omega) (by omega)
                have m0 := mo_bd HD.out (i := i) (j := j) (by omega) (by omega)
                have m1 := mo_bd HD.out (i := i) (j := j + 1) (by omega) (by omega)
                have hall := HD.out.all i j j1 (by omega)
                have hge := mo_ge (M := M) (i := i) (j := j + 1) (by omega)
                have e1 : pre L (j + 1) = pre L j + L.getD j 0 := pre_succ (by omega)
                have e2 : pre L (j + 1) - pre L i = pre L j - pre L i + L.getD j 0 := by omega
                by_cases hji : i < j
                · have qj : (i : Int) < (j : Int) := by omega
                  have e3 : 1 + U + mo M i (j + 1) = 1 + U + mo M i j + M.getD j 0 + 1 := by rw [mo_step hji (by omega)]; omega
                  have hle : pre L (j + 1) - pre L i ≤ 1 + U + mo M i (j + 1) := by omega
                  have E2 := Lib.hid e2; have E3 := Lib.hid e3
                  rw [e2, e3] at hle
                  rw [e2] at d1
                  have b2 : 0 ≤ 1 + U + mo M i j := by omega
                  have b3 : 1 + U + mo M i j + M.getD j 0 + 1 ≤ 9007199254740991000 := by omega
                  have b4 : 0 ≤ 1 + U + mo M i j + M.getD j 0 + 1 := by omega
                  have b5 := (HD.out.mb (M.getD j 0) (by rw [List.getD_eq_getElem?_getD, List.getElem?_eq_getElem (by omega)]; exact List.getElem_mem _)).1
                  clear e1 e2 e3 hall hge m1
                  generalize pre L j - pre L i = S at *
                  generalize 1 + U + mo M i j = Q at *
                  generalize L.getD j 0 = tk at *
                  generalize M.getD j 0 = my at *
                  have w1 := wrap_i64 (S + tk) (by omega) (by omega)
                  have w2 := wrap_i64 (Q + my) (by omega) (by omega)
                  have w3 := wrap_i64 (Q + my + 1) (by omega) (by omega)
                  have hno : ¬ Q + my + 1 < S + tk := by omega
                  go_wp2_with fail
                  go_roundw
                  case rel => exact ⟨j + 1, by omega, by omega, by rw [E2.out], by rw [E3.out], by go_num, HX.out⟩
                  case measure => simp [intOf]; omega
                · obtain rfl : i = j := by omega
                  have qj : ¬ (i : Int) < (i : Int) := by omega
                  have e3 : 1 + U + mo M i (i + 1) = 1 + U + mo M i i := by rw [mo_first, mo_start]
                  have hle : pre L (i + 1) - pre L i ≤ 1 + U + mo M i (i + 1) := by omega
                  have E2 := Lib.hid e2; have E3 := Lib.hid e3
                  rw [e2, e3] at hle
                  rw [e2] at d1
                  have b2 : 0 ≤ 1 + U + mo M i i := by omega
                  clear e1 e2 e3 hall hge m1
                  generalize pre L i - pre L i = S at *
                  generalize 1 + U + mo M i i = Q at *
                  generalize L.getD i 0 = tk at *
                  have w1 := wrap_i64 (S + tk) (by omega) (by omega)
                  have hno : ¬ Q < S + tk := by omega
                  go_wp2_with fail
                  go_roundw
                  case rel => exact ⟨i + 1, by omega, by omega, by rw [E2.out], by rw [E3.out], by go_num, HX.out⟩
                  case measure => simp [intOf]; omega
              · have r1 : ¬ (j : Int) < (n : Int) := by omega
                go_wp2_with fail
                go_roundw
                case rel => first | exact ⟨i + 1, by omega, by go_num, HX.out⟩ | ((repeat apply Exists.intro); exact ⟨⟨i + 1, by omega, by go_num, HX.out⟩, rfl⟩)
                case measure => simp [intOf]; omega
          · have qi : ¬ (i : Int) < (n : Int) := by omega
            go_wp2_with fail
            go_ret
            exact ⟨rfl, HX.out.bb.bw.gr.1⟩

theorem bucketBound_walk (w : World) (x0 x1 x2 x3 x4 x5 : Int) (hx0 : okI x0) (hx1 : okI x1) (hx2 : okI x2) (hx3 : okI x3) (hx4 : okI x4) (hx5 : okI x5) (u : Int) (hu : okI u) (a : Option Addr) (len cap : Nat) (zs : List Int) (hr : Row 3 w a len zs) (hl : len ≤ cap ∧ cap ≤ 9223372036854775807) (hz : ∀ n ∈ zs, okI n) :
    Calls Try.prog 5 #[.agg #[.int .i64 x0, .int .i64 x1, .int .i64 x2, .int .i64 x3, .int .i64 x4, .int .i64 x5], .int .i64 u, .slice a len cap] w fun e w' => e = .returned (.bool true) ∧ Below w.heap.size w w' := by
  rcases hr with ⟨rfl, _⟩ | ⟨b, off, rfl, hb, _, hc⟩
  · exact bucketBound_none w x0 x1 x2 x3 x4 x5 u hu a cap
  · exact bucketBound_some w x0 x1 x2 x3 x4 x5 hx0 hx1 hx2 hx3 hx4 hx5 u hu b off len cap zs hb hc hl.1 hl.2 hz

end Go.Proofs.Ytnmekhgilekofaa
