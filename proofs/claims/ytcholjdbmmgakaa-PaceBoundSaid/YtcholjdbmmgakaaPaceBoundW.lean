/- The walk of PaceBound. -/
import Derived.Test.YtcholjdbmmgakaaPaceThru
namespace Go.Proofs.Ytcholjdbmmgakaa
open Go.RowKit Sat

theorem owns_cells {w : World} {base : Nat} {e : TypeId} {size g n cap : Nat} {Z : List Int} (h : w.ownsRow base e size (.slice (some ⟨g, 0, none⟩) n cap) n (Z.map (Value.int .i64))) {j : Nat} (hj : j < n * size) : w.cell? ⟨g, j, none⟩ = some (.int .i64 (Z.getD j 0)) := by
  have hl : j < Z.length := by have := h.1; simp at this; omega
  rw [h.cellAt j hj, List.getElem?_map, List.getElem?_eq_getElem hl, List.getD_eq_getElem?_getD, List.getElem?_eq_getElem hl]
  rfl
theorem pl_zok {n : Int} {s : BS} {X Y t : Int} {Z : List Int} {m : Nat} {G : List Int} {g : Nat} (h : Pl n s X Y t Z m G g) (ht : t ≤ 42949672960) : Zok Z m :=
  ⟨fun i hi => by have := h.zf i hi; have := h.st; omega, h.zn, h.zd, h.zs⟩
theorem pl_size {n : Int} {s : BS} {X Y t : Int} {Z : List Int} {m : Nat} {G : List Int} {g : Nat} (h : Pl n s X Y t Z m G g) (j : Nat) : 0 ≤ G.getD (j * 2 + 1) 0 ∧ G.getD (j * 2 + 1) 0 ≤ 3000 := by
  by_cases q : j < g
  · have := h.gz j q; omega
  · have := h.gl
    rw [List.getD_eq_getElem?_getD, List.getElem?_eq_none (by omega)]; simp

set_option maxRecDepth 100000 in
set_option maxHeartbeats 3000000 in
theorem paceBound_walk (w : World) (u : Int) (hu : okI u) (a : Option Addr) (len cap : Nat) (zs : List Int) (hr : Row 4 w a len zs) (hl : len ≤ 9223372036854775807) (hz : ∀ n ∈ zs, okI n) :
    Calls Try.prog 23 #[.int .i64 u, .slice a len cap] w fun e w' => e = .returned (.bool true) ∧ Below w.heap.size w w' := by
  obtain ⟨u0, u1⟩ := bring_bd u 1048576 (by omega)
  have HU := Lib.hid (fun w => bring_any u 1048576 w hu (by omega) (by omega))
  obtain ⟨U, hU⟩ : ∃ v, u % 1048576 = v := ⟨_, rfl⟩
  rw [hU] at HU u0 u1
  clear hU hu
  have HRR := Lib.hid hr
  have HZZ := Lib.hid hz
  clear hr hz
  have hN : BS.newE (1 + U) 0 = 0 := by unfold BS.newE; rw [if_pos ⟨⟨by omega, by omega⟩, rfl⟩]
  have HNN := Lib.hid hN
  clear hN
  go_enter Try.func23, Try.ntmps23
  go_wp2_with fail
  refine (works14_any (Gr.refl w)).mono ?_
  rintro e w1 ⟨rfl, g1⟩
  have HG1 := Lib.hid g1; clear g1
  go_wp2_with (first | (go_at_call 57; refine (HU.out _).mono ?_; rintro e w' ⟨rfl, rfl⟩))
  refine (new_pk HNN.out HG1.out).mono ?_
  rintro e w2 ⟨p, rfl, h1⟩
  have HP1 := Lib.hid h1; clear h1
  go_wp2_with fail
  refine (play_any (1 + U) (by omega) (by omega) p _ w.heap.size w w2 HP1.out (Nat.le_refl _) _ _ _ zs HRR.out hl HZZ.out).mono ?_
  rintro e w3 ⟨v1, v2, b', s, X, Y, Z, m, G, g, rfl, hL, hpl, km, kg⟩
  have hT := after_bd zs (min len 40)
  obtain ⟨T, hTT⟩ : ∃ v, after zs (min len 40) = v := ⟨_, rfl⟩
  rw [hTT] at hT hpl
  have hT1 : T ≤ 42949672960 := by omega
  clear hTT
  have ZK := Lib.hid (pl_zok hpl hT1)
  have HPP := Lib.hid hpl
  have hst := hpl.st
  have hm0 := hpl.m0
  rcases hL.r1.2 with ⟨_, hm⟩ | ⟨gb, cap1, cur1, rfl, _⟩
  · omega
  rcases hL.r2.2 with ⟨rfl, rfl⟩ | ⟨gg, cap2, cur2, rfl, _⟩
  · have HLL := Lib.hid hL
    clear hL hpl
    go_wp2_with fail
    go_loopw [10] (fun i wr => i = .int .i64 0 ∧ wr = w3) (fun _ _ => 0)
    case atStart => exact ⟨rfl, rfl⟩
    case round =>
      obtain ⟨rfl, rfl⟩ := hrel
      go_wp2_with fail
      go_ret
      exact ⟨rfl, HLL.out.pk.gr.1⟩
  · have HLL := Lib.hid hL
    clear hL hpl
    go_wp2_with fail
    go_loopw [10] (fun iv wr => ∃ i : Nat, i ≤ g ∧ iv = .int .i64 i ∧ PL p b' s X Y (.slice (some ⟨gb, 0, none⟩) m cap1) (.slice (some ⟨gg, 0, none⟩) g cap2) Z m G g w.heap.size w wr) (fun i _ => (g - intOf i).toNat)
    case atStart => exact ⟨0, by omega, by first | rfl | trivial, HLL.out⟩
    case round =>
      obtain ⟨i, hi, rfl, hw⟩ := hrel
      have HW := Lib.hid hw; clear hw
      obtain ⟨wo, rfl⟩ : ∃ wo : World, wo = wr := ⟨_, rfl⟩
      by_cases hlt : i < g
      · have q0 : (0 : Int) ≤ (i : Int) := by omega
        have q1 : (i : Int) < (g : Int) := by omega
        have hai := HPP.out.ga i hlt
        go_wp2_with fail
        go_loopw [11, 12] (fun sv kv wr => ∃ k : Nat, i ≤ k ∧ k ≤ g ∧ sv = .int .i64 (sz G i k) ∧ kv = .int .i64 k ∧ PL p b' s X Y (.slice (some ⟨gb, 0, none⟩) m cap1) (.slice (some ⟨gg, 0, none⟩) g cap2) Z m G g w.heap.size w wr) (fun _ k _ => (g - intOf k).toNat)
        case atStart => exact ⟨i, by omega, by omega, by rw [sz_start], by first | rfl | trivial, HW.out⟩
        case round =>
          obtain ⟨k, k1, k2, rfl, rfl, hw⟩ := hrel
          clear HW
          have HW := Lib.hid hw; clear hw
          by_cases hkt : k < g
          · have r0 : (0 : Int) ≤ (k : Int) := by omega
            have r1 : (k : Int) < (g : Int) := by omega
            have hak := HPP.out.ga k hkt
            have hzk := HPP.out.gz k hkt
            have hs0 := sz_lo (fun j => (pl_size HPP.out j).1) i k
            have hs1 := sz_hi (c := 3000) (by omega) (fun j => (pl_size HPP.out j).2) i k
            have hall := HPP.out.all i k k1 hkt
            have SS := Lib.hid (sz_step G k1)
            rw [SS.out] at hall
            have c0 := owns_cells HW.out.r2 (j := i * 2) (by omega)
            have c1 := owns_cells HW.out.r2 (j := k * 2) (by omega)
            have c2 := owns_cells HW.out.r2 (j := k * 2 + 1) (by omega)
            have tb := thr_bd ZK.out (a := G.getD (i * 2) 0) (b := G.getD (k * 2) 0) (by omega)
            have TH := Lib.hid (fun wx (h : PL p b' s X Y (.slice (some ⟨gb, 0, none⟩) m cap1) (.slice (some ⟨gg, 0, none⟩) g cap2) Z m G g w.heap.size w wx) => thru_any gb cap1 m Z (G.getD (i * 2) 0) (G.getD (k * 2) 0) wx km ZK.out (fun j hj => owns_cells h.r1 hj) (by omega) (by omega) (by omega) (by omega))
            generalize G.getD (i * 2) 0 = ai at *
            generalize G.getD (k * 2) 0 = ak at *
            generalize G.getD (k * 2 + 1) 0 = zk at *
            generalize thr Z m ai ak = th at *
            have hn : decide (1 + U + th < sz G i k + zk) = false := decide_eq_false (by omega)
            have hn2 : ¬ 1 + U + th < sz G i k + zk := by omega
            have w5 := wrap_i64 (1 + U + th) (by omega) (by omega)
            clear hall
            go_wp2_with fail
            go_quiet ((go_at_call 100; exact Calls.quiet_of (TH.out _ (HW.out.drewN _))))
            go_wp2_with fail
            go_roundw
            case rel => exact ⟨k + 1, by omega, by omega, by rw [SS.out], by go_num, HW.out.drewN _⟩
            case measure => simp [intOf]; omega
          · have r1 : ¬ (k : Int) < (g : Int) := by omega
            go_wp2_with fail
            go_roundw
            case rel => first | exact ⟨i + 1, by omega, by go_num, HW.out⟩ | ((repeat apply Exists.intro); exact ⟨⟨i + 1, by omega, by go_num, HW.out⟩, rfl⟩)
            case measure => simp [intOf]; omega
      · have q1 : ¬ (i : Int) < (g : Int) := by omega
        go_wp2_with fail
        go_ret
        exact ⟨rfl, HW.out.pk.gr.1⟩

end Go.Proofs.Ytcholjdbmmgakaa
