/- sounderlaw14.play: what a pacer lets go, of steps. -/
import Derived.Test.YtcholjdbmmgakaaPacePlaysW
import Derived.Test.YtcholjdbmmgakaaPaceMath
import Derived.OwnWalk
namespace Go.Proofs.Ytcholjdbmmgakaa
open Go.RowKit Sat

theorem infoPiece : (Try.prog.info? 145).map (fun i => (i.zero, i.size, i.bytes)) = some (some (.agg #[.int .i64 0, .int .i64 0, .int .i64 0]), 3, 24) := by kernel_rfl
theorem infoGone : (Try.prog.info? 112).map (fun i => (i.zero, i.size, i.bytes)) = some (some (.agg #[.int .i64 0, .int .i64 0]), 2, 16) := by kernel_rfl
section
variable {w w' : World} {base : Nat} {e : TypeId} {size : Nat} {v : Value} {n : Nat} {xs : List Value}
theorem owns_keep (h : w.ownsRow base e size v n xs) (k : ∀ (g : Nat) (cur : Array Value), w.heap[g]? = some (Obj.cells cur e (0, 0)) → w'.heap[g]? = w.heap[g]?) : w'.ownsRow base e size v n xs := by
  refine ⟨h.1, ?_⟩
  rcases h.2 with hn | ⟨g, cap, cur, rfl, hb, hg, rest⟩
  · exact .inl hn
  · exact .inr ⟨g, cap, cur, rfl, hb, (k g cur hg).trans hg, rest⟩
theorem owns_below (h : w.ownsRow base e size v n xs) (g : Below w.heap.size w w') : w'.ownsRow base e size v n xs := owns_keep h fun _ _ hk => g.block _ (lt_of_block hk)
theorem owns_ch {a : Nat} {cs : Array Value} {t : TypeId} (h : w.ownsRow base e size v n xs) (c : Ch a w w') (ha : w.heap[a]? = some (.cells cs t (0, 0))) (ne : e ≠ t) : w'.ownsRow base e size v n xs :=
  owns_keep h fun _ _ hk => c.block _ (lt_of_block hk) (ne_types hk ha ne)
theorem owns_ch2 {a b : Nat} {cs cs' : Array Value} {t t' : TypeId} (h : w.ownsRow base e size v n xs) (c : Ch2 a b w w') (ha : w.heap[a]? = some (.cells cs t (0, 0))) (ne : e ≠ t) (hb : w.heap[b]? = some (.cells cs' t' (0, 0))) (ne' : e ≠ t') : w'.ownsRow base e size v n xs :=
  owns_keep h fun _ _ hk => c.block _ (lt_of_block hk) (ne_types hk ha ne) (ne_types hk hb ne')
theorem owns_block (h : w.ownsRow base e size v n xs) {g : Nat} (hg : v.ownBlock = some g) : ∃ cur, w.heap[g]? = some (.cells cur e (0, 0)) := by
  rcases h.2 with ⟨rfl, _⟩ | ⟨g', cap, cur, rfl, hb, hk, rest⟩
  · simp [Value.ownBlock] at hg
  · simp [Value.ownBlock] at hg
    subst hg
    exact ⟨cur, hk⟩
/-- A block of another type, while a row grows. -/
theorem grown_at {k : Nat} {cs : Array Value} {t : TypeId} (h : w.ownsRow base e size v n xs) (g : w.grownBy w' v.ownBlock) (hk : w.heap[k]? = some (.cells cs t (0, 0))) (ne : t ≠ e) : w'.heap[k]? = some (.cells cs t (0, 0)) := by
  rw [g.block k (lt_of_block hk) (fun q => by obtain ⟨cur, hc⟩ := owns_block h q.symm; exact ne_types hk hc ne rfl)]
  exact hk
theorem grown_owns {e' : TypeId} {size' n' : Nat} {v' : Value} {xs' : List Value} {base' : Nat} (h : w.ownsRow base e size v n xs) (g : w.grownBy w' v.ownBlock) (o : w.ownsRow base' e' size' v' n' xs') (ne : e' ≠ e) : w'.ownsRow base' e' size' v' n' xs' :=
  owns_keep o fun _ _ hk => (grown_at h g hk ne).trans hk.symm
theorem grown_gr {B : Nat} {w0 : World} (h : w.ownsRow B e size v n xs) (g : w.grownBy w' v.ownBlock) (r : Gr B w0 w) : Gr B w0 w' := ⟨r.1.grown g r.2 (fun k hk => (h.lt k hk).1), Nat.le_trans r.2 g.size⟩
theorem grown_pk {p b : Nat} {s : BS} {x y : Int} {B : Nat} {w0 : World} (h : w.ownsRow B e size v n xs) (g : w.grownBy w' v.ownBlock) (q : PK p b s x y B w0 w) (n1 : 122 ≠ e) (n2 : 90 ≠ e) : PK p b s x y B w0 w' :=
  ⟨⟨grown_at h g q.pq.pc n1, grown_at h g q.pq.bk n2, q.pq.ok, q.pq.may⟩, grown_gr h g q.gr, q.hp, q.hb⟩
end
theorem PK.drewN {p b : Nat} {s : BS} {x y : Int} {B : Nat} {w0 w : World} (h : PK p b s x y B w0 w) (n : Nat) : PK p b s x y B w0 (w.drewN n) := ⟨⟨h.pq.pc, h.pq.bk, h.pq.ok, h.pq.may⟩, h.gr.drewN n, h.hp, h.hb⟩
theorem news_cells {w : World} {K : Nat} {cs : List Value} {t : TypeId} (h : w.heap[K]? = some (.cells cs.toArray t (0, 0))) : ∀ (j : Nat) (u : Value), cs[j]? = some u → w.cell? ((⟨K, 0, none⟩ : Addr).add j) = some u := by
  intro j u hu
  rw [add_none, Nat.zero_add]
  exact cellOf h (by rw [List.getElem?_toArray]; exact hu)

/-- A pacer on its way, its pieces and what went, in memory of the call's own. -/
structure PL (p b : Nat) (s : BS) (X Y : Int) (v1 v2 : Value) (Z : List Int) (m : Nat) (G : List Int) (g : Nat) (B : Nat) (w0 w : World) : Prop where
  pk : PK p b s X Y B w0 w
  r1 : w.ownsRow B 145 3 v1 m (Z.map (Value.int .i64))
  r2 : w.ownsRow B 112 2 v2 g (G.map (Value.int .i64))
section
variable {p b : Nat} {s s' : BS} {X Y X' Y' : Int} {v1 v2 : Value} {Z G : List Int} {m g : Nat} {B : Nat} {w0 w w' : World}
theorem PL.step (h : PL p b s X Y v1 v2 Z m G g B w0 w) (k : Below w.heap.size w w') : PL p b s X Y v1 v2 Z m G g B w0 w' := ⟨h.pk.step k, owns_below h.r1 k, owns_below h.r2 k⟩
theorem PL.drewN (h : PL p b s X Y v1 v2 Z m G g B w0 w) (k : Nat) : PL p b s X Y v1 v2 Z m G g B w0 (w.drewN k) := ⟨h.pk.drewN k, owns_keep h.r1 fun _ _ _ => rfl, owns_keep h.r2 fun _ _ _ => rfl⟩
theorem PL.alloc (h : PL p b s X Y v1 v2 Z m G g B w0 w) (o : Obj) : PL p b s X Y v1 v2 Z m G g B w0 (w.alloc o) := h.step ((Below.refl _ _).alloc (Nat.le_refl _) _)
theorem PL.set (h : PL p b s X Y v1 v2 Z m G g B w0 w) (k : PK p b s' X' Y' B w0 w') (c : Ch2 p b w w') : PL p b s' X' Y' v1 v2 Z m G g B w0 w' :=
  ⟨k, owns_ch2 h.r1 c h.pk.pq.pc (by decide) h.pk.pq.bk (by decide), owns_ch2 h.r2 c h.pk.pq.pc (by decide) h.pk.pq.bk (by decide)⟩
theorem PL.send {b' : Nat} (h : PL p b s X Y v1 v2 Z m G g B w0 w) (k : PK p b' s' X' Y' B w0 w') (c : Ch p w w') : PL p b' s' X' Y' v1 v2 Z m G g B w0 w' :=
  ⟨k, owns_ch h.r1 c h.pk.pq.pc (by decide), owns_ch h.r2 c h.pk.pq.pc (by decide)⟩
theorem PL.piece {x y z : Int} {v' : Value} (h : PL p b s X Y v1 v2 Z m G g B w0 w) (o : w'.ownsRow B 145 3 v' (m + 1) (Z.map (Value.int .i64) ++ [.int .i64 x, .int .i64 y, .int .i64 z])) (k : w.grownBy w' v1.ownBlock) : PL p b s X Y v' v2 (Z ++ [x, y, z]) (m + 1) G g B w0 w' :=
  ⟨grown_pk h.r1 k h.pk (by decide) (by decide), by rw [List.map_append]; exact o, grown_owns h.r1 k h.r2 (by decide)⟩
theorem PL.gone {x y : Int} {v' : Value} (h : PL p b s X Y v1 v2 Z m G g B w0 w) (o : w'.ownsRow B 112 2 v' (g + 1) (G.map (Value.int .i64) ++ [.int .i64 x, .int .i64 y])) (k : w.grownBy w' v2.ownBlock) : PL p b s X Y v1 v' Z m (G ++ [x, y]) (g + 1) B w0 w' :=
  ⟨grown_pk h.r2 k h.pk (by decide) (by decide), grown_owns h.r2 k h.r1 (by decide), by rw [List.map_append]; exact o⟩
end
/-- How much time passes in the first k steps. -/
def after (zs : List Int) : Nat → Int
  | 0 => 0
  | k + 1 => after zs k + zs.getD (k * 4) 0 % 1073741824
theorem after_bd (zs : List Int) : ∀ k : Nat, 0 ≤ after zs k ∧ after zs k ≤ k * 1073741824
  | 0 => by simp [after]
  | k + 1 => by
    have ih := after_bd zs k
    have h0 := bring_bd (zs.getD (k * 4) 0) 1073741824 (by omega)
    show 0 ≤ after zs k + zs.getD (k * 4) 0 % 1073741824 ∧ after zs k + zs.getD (k * 4) 0 % 1073741824 ≤ _
    push_cast; omega

set_option maxRecDepth 100000 in
set_option maxHeartbeats 4000000 in
theorem play_none (n : Int) (n0 : 1 ≤ n) (n1 : n ≤ 1073741824) (p b : Nat) (B : Nat) (w0 w : World) (hpk : PK p b (BS.new n 0) 0 1 B w0 w) (a0 : Option Addr) (cap : Nat) (zs : List Int) :
    Calls Try.prog 99 #[.pointer (some ⟨p, 0, none⟩), .slice a0 0 cap] w fun e w' => ∃ v1 v2 b' s X Y Z m G g, e = .returned (.tuple #[v1, v2, .bool true]) ∧ PL p b' s X Y v1 v2 Z m G g B w0 w' ∧ Pl n s X Y (after zs 0) Z m G g ∧ m ≤ 41 ∧ g ≤ 40 := by
  go_enter Try.func99, Try.ntmps99
  go_wp2_with fail
  have h1 : PL p b (BS.new n 0) 0 1 (.slice (some ⟨w.heap.size, 0, none⟩) 1 1) (.slice none 0 0) [0, 0, 1] 1 [] 0 B w0 (w.alloc (.cells #[.int .i64 0, .int .i64 0, .int .i64 1] 145 (0, 0))) :=
    ⟨hpk.step ((Below.refl _ _).alloc (Nat.le_refl _) _), World.ownsRow_lit w #[.int .i64 0, .int .i64 0, .int .i64 1] 1 hpk.gr.2 (by decide) rfl, World.ownsRow_nil _ _ _ _⟩
  go_loopw [7, 8, 9, 10] (fun v1 v2 t i wr => v1 = .slice (some ⟨w.heap.size, 0, none⟩) 1 1 ∧ v2 = .slice none 0 0 ∧ t = .int .i64 0 ∧ i = .int .i64 0 ∧ wr = w.alloc (.cells #[.int .i64 0, .int .i64 0, .int .i64 1] 145 (0, 0))) (fun _ _ _ _ _ => 0)
  case atStart => exact ⟨rfl, rfl, rfl, rfl, rfl⟩
  case round =>
    obtain ⟨rfl, rfl, rfl, rfl, rfl⟩ := hrel
    go_wp2_with fail
    go_ret3
    exact ⟨_, _, _, _, _, _, _, _, _, _, rfl, h1, pl_start n0 n1, by omega, by omega⟩

set_option maxRecDepth 100000 in
set_option maxHeartbeats 4000000 in
theorem play_some (n : Int) (n0 : 1 ≤ n) (n1 : n ≤ 1073741824) (p b : Nat) (B : Nat) (w0 w : World) (hpk : PK p b (BS.new n 0) 0 1 B w0 w) (b0 off len cap : Nat) (zs : List Int) (hb : b0 < B) (hc : ∀ j, j < len * 4 → w0.cell? ⟨b0, off + j, none⟩ = some (.int .i64 (zs.getD j 0))) (hl : len ≤ 9223372036854775807) (hz : ∀ n ∈ zs, okI n) :
    Calls Try.prog 99 #[.pointer (some ⟨p, 0, none⟩), .slice (some ⟨b0, off, none⟩) len cap] w fun e w' => ∃ v1 v2 b' s X Y Z m G g, e = .returned (.tuple #[v1, v2, .bool true]) ∧ PL p b' s X Y v1 v2 Z m G g B w0 w' ∧ Pl n s X Y (after zs (min len 40)) Z m G g ∧ m ≤ 41 ∧ g ≤ 40 := by
  have HCC := Lib.hid hc; clear hc
  have HZZ := Lib.hid hz; clear hz
  obtain ⟨i0, hi, hi0, hi1, hi2⟩ := info_parts infoPiece
  obtain ⟨j0, hj, hj0, hj1, hj2⟩ := info_parts infoGone
  go_enter Try.func99, Try.ntmps99
  go_wp2_with fail
  have h1 : PL p b (BS.new n 0) 0 1 (.slice (some ⟨w.heap.size, 0, none⟩) 1 1) (.slice none 0 0) [0, 0, 1] 1 [] 0 B w0 (w.alloc (.cells #[.int .i64 0, .int .i64 0, .int .i64 1] 145 (0, 0))) :=
    ⟨hpk.step ((Below.refl _ _).alloc (Nat.le_refl _) _), World.ownsRow_lit w #[.int .i64 0, .int .i64 0, .int .i64 1] 1 hpk.gr.2 (by decide) rfl, World.ownsRow_nil _ _ _ _⟩
  go_loopw [7, 8, 9, 10] (fun v1 v2 t iv wr => ∃ (i : Nat) (T : Int) (b' : Nat) (s : BS) (X Y : Int) (Z : List Int) (m : Nat) (G : List Int) (g : Nat), i ≤ len ∧ i ≤ 40 ∧ t = .int .i64 T ∧ iv = .int .i64 i ∧ T = after zs i ∧ PL p b' s X Y v1 v2 Z m G g B w0 wr ∧ Pl n s X Y T Z m G g ∧ m ≤ i + 1 ∧ g ≤ i) (fun _ _ _ i _ => (40 - intOf i).toNat)
  case atStart => exact ⟨0, 0, _, _, _, _, _, _, _, _, by omega, by omega, rfl, rfl, rfl, h1, pl_start n0 n1, by omega, by omega⟩
  case round =>
    obtain ⟨i, T, b', s, X, Y, Z, m, G, g, k1, k2, rfl, rfl, hTe, hL, hpl, km, kg⟩ := hrel
    clear h1 hpk
    rename_i v1 v2
    have hTb := after_bd zs i
    rw [← hTe] at hTb
    by_cases hlt : i < len ∧ i < 40
    · obtain ⟨hk, hk40⟩ := hlt
      have HC0 := HCC.out (i * 4) (by omega); have HC1 := HCC.out (i * 4 + 1) (by omega); have HC2 := HCC.out (i * 4 + 2) (by omega); have HC3 := HCC.out (i * 4 + 3) (by omega)
      have o0 := okI_getD HZZ.out (i * 4); have o1 := okI_getD HZZ.out (i * 4 + 1); have o2 := okI_getD HZZ.out (i * 4 + 2); have o3 := okI_getD HZZ.out (i * 4 + 3)
      have hT'e : T + zs.getD (i * 4) 0 % 1073741824 = after zs (i + 1) := by rw [hTe]; rfl
      generalize zs.getD (i * 4) 0 = da at HC0 o0 hT'e
      generalize zs.getD (i * 4 + 1) 0 = dz at HC1 o1
      generalize zs.getD (i * 4 + 2) 0 = dc at HC2 o2
      generalize zs.getD (i * 4 + 3) 0 = dm at HC3 o3
      have c0 := (hL.pk.gr.1.cell (p := ⟨b0, off + (i * 4), none⟩) hb).trans HC0
      have c1 : wr.cell? ⟨b0, off + i * 4 + 1, none⟩ = some (.int .i64 dz) := (hL.pk.gr.1.cell (p := ⟨b0, off + (i * 4 + 1), none⟩) hb).trans HC1
      have c2 : wr.cell? ⟨b0, off + i * 4 + 2, none⟩ = some (.int .i64 dc) := (hL.pk.gr.1.cell (p := ⟨b0, off + (i * 4 + 2), none⟩) hb).trans HC2
      have c3 : wr.cell? ⟨b0, off + i * 4 + 3, none⟩ = some (.int .i64 dm) := (hL.pk.gr.1.cell (p := ⟨b0, off + (i * 4 + 3), none⟩) hb).trans HC3
      have CQ1 : Hid (∀ w', Gr B w0 w' → w'.cell? ⟨b0, off + i * 4 + 1, none⟩ = some (.int .i64 dz)) := Lib.hid fun w' g' => (g'.1.cell (p := ⟨b0, off + (i * 4 + 1), none⟩) hb).trans HC1
      clear HC0 HC1 HC2 HC3 hTe
      have q0 : (0 : Int) ≤ (i : Int) := by omega
      have q1 : (i : Int) < (len : Int) := by omega
      have q2 : (i : Int) < 40 := by omega
      have HZ0 := Lib.hid (fun w => bring_any da 1073741824 w o0 (by omega) (by omega))
      have HZ3 := Lib.hid (fun w => bring_any dz 3000 w o1 (by omega) (by omega))
      have HZ1 := Lib.hid (fun w => bring_any dc 1048576 w o2 (by omega) (by omega))
      have HZ2 := Lib.hid (fun w => bring_any dm 1073741824 w o3 (by omega) (by omega))
      obtain ⟨a0, a1⟩ := bring_bd da 1073741824 (by omega)
      obtain ⟨z0, z1⟩ := bring_bd dz 3000 (by omega)
      obtain ⟨cc0, cc1⟩ := bring_bd dc 1048576 (by omega)
      obtain ⟨mm0, mm1⟩ := bring_bd dm 1073741824 (by omega)
      obtain ⟨D, hD⟩ : ∃ v, da % 1073741824 = v := ⟨_, rfl⟩
      obtain ⟨z, hz⟩ : ∃ v, dz % 3000 = v := ⟨_, rfl⟩
      obtain ⟨C, hC⟩ : ∃ v, dc % 1048576 = v := ⟨_, rfl⟩
      obtain ⟨M, hM⟩ : ∃ v, dm % 1073741824 = v := ⟨_, rfl⟩
      rw [hD] at HZ0 a0 a1 hT'e
      rw [hz] at HZ3 z0 z1
      rw [hC] at HZ1 cc0 cc1
      rw [hM] at HZ2 mm0 mm1
      clear hD hz hC hM o0 o1 o2 o3
      have hpl := pl_later hpl (show T ≤ T + D by omega)
      have HTE := Lib.hid hT'e
      clear hT'e
      have T0 : 0 ≤ T + D := by omega
      have T1 : T + D ≤ 42949672960 + 1073741824 := by omega
      rcases hodd : (dc.tmod 2 == 0) with _ | _
      · have hst := hpl.st
        have hno : (dc.tmod 2 != 0) = true := by simp [bne, hodd]
        have wC := wrap_i64 (1 + C) (by omega) (by omega)
        have hset : setOk (T + D) (1 + C) M = true := by
          unfold setOk; rw [isNum_yes T0 (by omega), isNum_yes mm0 (by omega), decide_eq_true ⟨by omega, by omega⟩]; rfl
        have f := BS.fillE_yes (s := s) (isNum_yes T0 (by omega)) hpl.may hst
        have s1 : s.setE X Y (T + D) (1 + C) M = 0 := by unfold BS.setE; rw [if_pos hset, f]
        have s2 : s.setS X Y (T + D) (1 + C) M = s.fill (T + D) X Y := by unfold BS.setS; rw [if_pos s1]
        have s3 : s.setX X Y (T + D) (1 + C) M = 5 * (1 + C) := by unfold BS.setX; rw [if_pos s1]
        have s4 : s.setY X Y (T + D) (1 + C) M = max 1 (4 * M) := by unfold BS.setY; rw [if_pos s1]; unfold denP; omega
        have S1 := Lib.hid s1; have S2 := Lib.hid s2; have S3 := Lib.hid s3; have S4 := Lib.hid s4
        have hpl2 := pl_set (pl_fill hpl (by omega)) (fill_t hpl.ok hst (by omega) hpl.may) (x := 5 * (1 + C)) (y := max 1 (4 * M)) (by omega) (by omega) (by omega) (by omega)
        have HPL0 := Lib.hid hL
        have HP2 := Lib.hid hpl2
        clear hL hpl hpl2 s1 s2 s3 s4 hset f
        go_wp2_with (first | (go_at_call_has 57 (Value.int .i64 da); refine (HZ0.out _).mono ?_; rintro e w' ⟨rfl, rfl⟩))
        go_quiet ((first | (go_at_call_has 57 (Value.int .i64 dc); exact Calls.quiet_of_same ((HZ1.out _).mono fun _ _ ⟨x, y⟩ => ⟨x, y.symm⟩)) | (go_at_call_has 57 (Value.int .i64 dm); exact Calls.quiet_of_same ((HZ2.out _).mono fun _ _ ⟨x, y⟩ => ⟨x, y.symm⟩))))
        go_wp2_with fail
        refine (set_pk 0 S1.out S2.out S3.out S4.out (by exact (HPL0.out.drewN _).pk)).mono ?_
        rintro e wT ⟨rfl, hT, cT⟩
        have hL1 := (HPL0.out.drewN _).set hT cT
        have szT : B ≤ wT.heap.size := hT.gr.2
        have HL1 := Lib.hid hL1
        clear hT cT hL1 c0 c1 c2 c3
        go_wp2_with (first | (at_builtin; refine wpList_append_own _ rfl (.tmp 62) (.tmp 70) 107 rfl B 145 i0 (.agg #[.int .i64 0, .int .i64 0, .int .i64 0]) 3 24 Try.underlying107 hi hi0 hi1 hi2 rfl (by decide) _ _ _ rfl ((HL1.out.alloc _).r1) ⟨wT.heap.size, 0, none⟩ 1 1 [.int .i64 (T + D), .int .i64 (5 * (1 + C)), .int .i64 (max 1 (4 * M))] rfl rfl (news_cells (new_at _ _)) (fun x hx => by simp at hx; rcases hx with rfl | rfl | rfl <;> rfl) (by unfold maxLen; omega) (by omega) (by simp; omega) ?_; intro v1' wP hown hgrow _; have HL2 := Lib.hid ((HL1.out.alloc _).piece hown hgrow); have c1 := CQ1.out _ HL2.out.pk.gr; clear hown hgrow))
        go_wp2_with (first | (go_at_call_has 57 (Value.int .i64 dz); refine (HZ3.out _).mono ?_; rintro e w' ⟨rfl, rfl⟩))
        have hpl := HP2.out
        have hL := HL2.out
        clear HP2 HL2 HL1 HPL0
        have SB := Lib.hid (pl_fill hpl (by omega))
        have hft := fill_t hpl.ok hpl.st (by omega) hpl.may
        have PLX := Lib.hid hpl
        have HPL := Lib.hid hL
        by_cases hfit : 1 + z ≤ ((s.fill (T + D) X Y).fill (T + D) (5 * (1 + C)) (max 1 (4 * M))).n
        · have e1 : (s.fill (T + D) X Y).sendE (5 * (1 + C)) (max 1 (4 * M)) (T + D) (1 + z) = 0 := by unfold BS.sendE; rw [if_pos ⟨isNum_yes (by omega) (by omega), isSz1_yes (by omega) (by omega)⟩, if_neg (by have := hpl.st; omega), if_neg (by omega)]
          have e2 : (s.fill (T + D) X Y).sent (5 * (1 + C)) (max 1 (4 * M)) (T + D) (1 + z) = ((s.fill (T + D) X Y).fill (T + D) (5 * (1 + C)) (max 1 (4 * M))).taken (1 + z) := by unfold BS.sent; rw [if_pos e1]
          have e3 : (s.fill (T + D) X Y).canB (5 * (1 + C)) (max 1 (4 * M)) (T + D) (1 + z) = true := by unfold BS.canB; rw [e1]; rfl
          have SN := Lib.hid (pl_send SB.out hft (z := 1 + z) (by omega) (by omega) hfit)
          have E1 := Lib.hid e1; have E2 := Lib.hid e2; have E3 := Lib.hid e3
          clear hpl hL e1 e2 e3 hfit hft SB
          go_wp2_with (first | (go_at_call_has 57 (Value.int .i64 dz); refine (HZ3.out _).mono ?_; rintro e w' ⟨rfl, rfl⟩) | (go_at_call 102; refine (can_pk true E3.out HPL.out.pk).mono ?_; rintro e wC ⟨rfl, hC, bC⟩; have HPC := Lib.hid (HPL.out.step bC); clear hC bC) | (go_at_call 94; refine (send_pk 0 E1.out E2.out HPC.out.pk).mono ?_; rintro e wS ⟨b2, rfl, hS, cS⟩; have HPS := Lib.hid (HPC.out.send hS cS); have szS : B ≤ wS.heap.size := hS.gr.2; clear hS cS) | (at_builtin; refine wpList_append_own _ rfl (.tmp 89) (.tmp 93) 108 rfl B 112 j0 (.agg #[.int .i64 0, .int .i64 0]) 2 16 Try.underlying108 hj hj0 hj1 hj2 rfl (by decide) _ _ _ rfl ((HPS.out.alloc _).r2) ⟨wS.heap.size, 0, none⟩ 1 1 [.int .i64 (T + D), .int .i64 (1 + z)] rfl rfl (news_cells (new_at _ _)) (fun x hx => by simp at hx; rcases hx with rfl | rfl <;> rfl) (by unfold maxLen; omega) (by omega) (by simp; omega) ?_; intro v' wG hown hgrow _; have HPG := Lib.hid ((HPS.out.alloc _).gone hown hgrow); clear hown hgrow))
          go_roundw
          case rel => exact ⟨i + 1, (T + D), _, _, _, _, _, _, _, _, by omega, by omega, rfl, by go_num, HTE.out, HPG.out, SN.out, by omega, by omega⟩
          case measure => simp [intOf]; omega
        · have e1 : (s.fill (T + D) X Y).sendE (5 * (1 + C)) (max 1 (4 * M)) (T + D) (1 + z) = 213 := by unfold BS.sendE; rw [if_pos ⟨isNum_yes (by omega) (by omega), isSz1_yes (by omega) (by omega)⟩, if_neg (by have := hpl.st; omega), if_pos (by omega)]
          have e2 : (s.fill (T + D) X Y).sent (5 * (1 + C)) (max 1 (4 * M)) (T + D) (1 + z) = (s.fill (T + D) X Y) := by unfold BS.sent; rw [if_neg (by rw [e1]; decide)]
          have e3 : (s.fill (T + D) X Y).canB (5 * (1 + C)) (max 1 (4 * M)) (T + D) (1 + z) = false := by unfold BS.canB; rw [e1]; rfl
          have E1 := Lib.hid e1; have E2 := Lib.hid e2; have E3 := Lib.hid e3
          clear hpl hL e1 e2 e3 hfit hft SB
          go_wp2_with (first | (go_at_call_has 57 (Value.int .i64 dz); refine (HZ3.out _).mono ?_; rintro e w' ⟨rfl, rfl⟩) | (go_at_call 102; refine (can_pk false E3.out HPL.out.pk).mono ?_; rintro e wC ⟨rfl, hC, bC⟩; have HPC := Lib.hid (HPL.out.step bC); clear hC bC) | (go_at_call 94; refine (send_pk 213 E1.out E2.out HPC.out.pk).mono ?_; rintro e wS ⟨b2, rfl, hS, cS⟩; have HPS := Lib.hid (HPC.out.send hS cS); clear hS cS))
          go_roundw
          case rel => exact ⟨i + 1, (T + D), _, _, _, _, _, _, _, _, by omega, by omega, rfl, by go_num, HTE.out, HPS.out, PLX.out, by omega, by omega⟩
          case measure => simp [intOf]; omega
      · have hno : (dc.tmod 2 != 0) = false := by simp [bne, hodd]
        go_wp2_with (first | (go_at_call_has 57 (Value.int .i64 da); refine (HZ0.out _).mono ?_; rintro e w' ⟨rfl, rfl⟩) | (go_at_call_has 57 (Value.int .i64 dz); refine (HZ3.out _).mono ?_; rintro e w' ⟨rfl, rfl⟩))
        have SB := Lib.hid (pl_fill hpl (by omega))
        have hft := fill_t hpl.ok hpl.st (by omega) hpl.may
        have PLX := Lib.hid hpl
        have HPL := Lib.hid hL
        by_cases hfit : 1 + z ≤ (s.fill (T + D) X Y).n
        · have e1 : s.sendE X Y (T + D) (1 + z) = 0 := by unfold BS.sendE; rw [if_pos ⟨isNum_yes (by omega) (by omega), isSz1_yes (by omega) (by omega)⟩, if_neg (by have := hpl.st; omega), if_neg (by omega)]
          have e2 : s.sent X Y (T + D) (1 + z) = (s.fill (T + D) X Y).taken (1 + z) := by unfold BS.sent; rw [if_pos e1]
          have e3 : s.canB X Y (T + D) (1 + z) = true := by unfold BS.canB; rw [e1]; rfl
          have SN := Lib.hid (pl_send SB.out hft (z := 1 + z) (by omega) (by omega) hfit)
          have E1 := Lib.hid e1; have E2 := Lib.hid e2; have E3 := Lib.hid e3
          clear hpl hL e1 e2 e3 hfit hft SB
          go_wp2_with (first | (go_at_call_has 57 (Value.int .i64 dz); refine (HZ3.out _).mono ?_; rintro e w' ⟨rfl, rfl⟩) | (go_at_call 102; refine (can_pk true E3.out HPL.out.pk).mono ?_; rintro e wC ⟨rfl, hC, bC⟩; have HPC := Lib.hid (HPL.out.step bC); clear hC bC) | (go_at_call 94; refine (send_pk 0 E1.out E2.out HPC.out.pk).mono ?_; rintro e wS ⟨b2, rfl, hS, cS⟩; have HPS := Lib.hid (HPC.out.send hS cS); have szS : B ≤ wS.heap.size := hS.gr.2; clear hS cS) | (at_builtin; refine wpList_append_own _ rfl (.tmp 89) (.tmp 93) 108 rfl B 112 j0 (.agg #[.int .i64 0, .int .i64 0]) 2 16 Try.underlying108 hj hj0 hj1 hj2 rfl (by decide) _ _ _ rfl ((HPS.out.alloc _).r2) ⟨wS.heap.size, 0, none⟩ 1 1 [.int .i64 (T + D), .int .i64 (1 + z)] rfl rfl (news_cells (new_at _ _)) (fun x hx => by simp at hx; rcases hx with rfl | rfl <;> rfl) (by unfold maxLen; omega) (by omega) (by simp; omega) ?_; intro v' wG hown hgrow _; have HPG := Lib.hid ((HPS.out.alloc _).gone hown hgrow); clear hown hgrow))
          go_roundw
          case rel => exact ⟨i + 1, (T + D), _, _, _, _, _, _, _, _, by omega, by omega, rfl, by go_num, HTE.out, HPG.out, SN.out, by omega, by omega⟩
          case measure => simp [intOf]; omega
        · have e1 : s.sendE X Y (T + D) (1 + z) = 213 := by unfold BS.sendE; rw [if_pos ⟨isNum_yes (by omega) (by omega), isSz1_yes (by omega) (by omega)⟩, if_neg (by have := hpl.st; omega), if_pos (by omega)]
          have e2 : s.sent X Y (T + D) (1 + z) = s := by unfold BS.sent; rw [if_neg (by rw [e1]; decide)]
          have e3 : s.canB X Y (T + D) (1 + z) = false := by unfold BS.canB; rw [e1]; rfl
          have E1 := Lib.hid e1; have E2 := Lib.hid e2; have E3 := Lib.hid e3
          clear hpl hL e1 e2 e3 hfit hft SB
          go_wp2_with (first | (go_at_call_has 57 (Value.int .i64 dz); refine (HZ3.out _).mono ?_; rintro e w' ⟨rfl, rfl⟩) | (go_at_call 102; refine (can_pk false E3.out HPL.out.pk).mono ?_; rintro e wC ⟨rfl, hC, bC⟩; have HPC := Lib.hid (HPL.out.step bC); clear hC bC) | (go_at_call 94; refine (send_pk 213 E1.out E2.out HPC.out.pk).mono ?_; rintro e wS ⟨b2, rfl, hS, cS⟩; have HPS := Lib.hid (HPC.out.send hS cS); clear hS cS))
          go_roundw
          case rel => exact ⟨i + 1, (T + D), _, _, _, _, _, _, _, _, by omega, by omega, rfl, by go_num, HTE.out, HPS.out, PLX.out, by omega, by omega⟩
          case measure => simp [intOf]; omega
    · by_cases hk : i < len
      · have q1 : (i : Int) < (len : Int) := by omega
        have q2 : ¬ (i : Int) < 40 := by omega
        have e : min len 40 = i := by omega
        have hplE : Pl n s X Y (after zs (min len 40)) Z m G g := by rw [e, ← hTe]; exact hpl
        have HE := Lib.hid hplE; have HLL := Lib.hid hL
        clear hlt e hplE hTe hpl hL
        go_wp2_with fail
        go_ret3
        refine ⟨_, _, rfl, _, _, _, _, _, _, _, _, HLL.out, HE.out, ?_, ?_⟩ <;> omega
      · have q1 : ¬ (i : Int) < (len : Int) := by omega
        have e : min len 40 = i := by omega
        have hplE : Pl n s X Y (after zs (min len 40)) Z m G g := by rw [e, ← hTe]; exact hpl
        have HE := Lib.hid hplE; have HLL := Lib.hid hL
        clear hlt e hplE hTe hpl hL
        go_wp2_with fail
        go_ret3
        refine ⟨_, _, rfl, _, _, _, _, _, _, _, _, HLL.out, HE.out, ?_, ?_⟩ <;> omega

theorem play_any (n : Int) (n0 : 1 ≤ n) (n1 : n ≤ 1073741824) (p b : Nat) (B : Nat) (w0 w : World) (hpk : PK p b (BS.new n 0) 0 1 B w0 w) (hB : w0.heap.size ≤ B) (a : Option Addr) (len cap : Nat) (zs : List Int) (hr : Row 4 w0 a len zs) (hl : len ≤ 9223372036854775807) (hz : ∀ n ∈ zs, okI n) :
    Calls Try.prog 99 #[.pointer (some ⟨p, 0, none⟩), .slice a len cap] w fun e w' => ∃ v1 v2 b' s X Y Z m G g, e = .returned (.tuple #[v1, v2, .bool true]) ∧ PL p b' s X Y v1 v2 Z m G g B w0 w' ∧ Pl n s X Y (after zs (min len 40)) Z m G g ∧ m ≤ 41 ∧ g ≤ 40 := by
  rcases hr with ⟨rfl, _⟩ | ⟨b0, off, rfl, hb, _, hc⟩
  · exact play_none n n0 n1 p b B w0 w hpk a cap zs
  · exact play_some n n0 n1 p b B w0 w hpk b0 off len cap zs (by omega) hc hl hz

end Go.Proofs.Ytcholjdbmmgakaa
