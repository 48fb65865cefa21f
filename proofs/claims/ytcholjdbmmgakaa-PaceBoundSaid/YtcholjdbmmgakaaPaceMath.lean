/- What rates let through, piece by piece; what a pacer lets go is bounded by it. No program. -/
import Derived.Test.YtcholjdbmmgakaaListMath
namespace Go.Proofs.Ytcholjdbmmgakaa.Sat

/-- What one rate lets through from a to b, upwards. -/
def seg (x y a b : Int) : Int := if a < b then ((b - a) * x + y - 1) / y else 0
theorem seg_le {x y a b : Int} (hy : 0 < y) (h : a ≤ b) : seg x y a b = ((b - a) * x + y - 1) / y := by
  unfold seg
  by_cases g : a < b
  · rw [if_pos g]
  · have : b - a = 0 := by omega
    rw [if_neg g, this, Int.zero_mul, Int.ediv_eq_zero_of_lt (by omega) (by omega)]
theorem seg_no {x y a b : Int} (h : b ≤ a) : seg x y a b = 0 := by unfold seg; rw [if_neg (by omega)]

/-- Of m pieces (three numbers each: from when on, so many, in so long), the i-th one's share. -/
def share (Z : List Int) (m : Nat) (a b : Int) (i : Nat) : Int :=
  seg (Z.getD (i * 3 + 1) 0) (Z.getD (i * 3 + 2) 0) (max a (Z.getD (i * 3) 0)) (if i + 1 < m then min b (Z.getD ((i + 1) * 3) 0) else b)
def thrI (Z : List Int) (m : Nat) (a b : Int) : Nat → Int
  | 0 => 0
  | k + 1 => thrI Z m a b k + share Z m a b k
def thr (Z : List Int) (m : Nat) (a b : Int) : Int := thrI Z m a b m

theorem getD_app {Z : List Int} (V : List Int) {j : Nat} (h : j < Z.length) : (Z ++ V).getD j 0 = Z.getD j 0 := by
  rw [List.getD_eq_getElem?_getD, List.getD_eq_getElem?_getD, List.getElem?_append_left h]
theorem getD_new {Z : List Int} (V : List Int) {j i : Nat} (h : j = Z.length + i) : (Z ++ V).getD j 0 = V.getD i 0 := by
  rw [List.getD_eq_getElem?_getD, List.getD_eq_getElem?_getD, List.getElem?_append_right (by omega), show j - Z.length = i by omega]
theorem thrI_congr {Z V : List Int} {m n : Nat} {a b c : Int} : ∀ k : Nat, (∀ i, i < k → share Z m a b i = share V n a c i) → thrI Z m a b k = thrI V n a c k
  | 0, _ => rfl
  | k + 1, h => by
    show thrI Z m a b k + share Z m a b k = thrI V n a c k + share V n a c k
    rw [thrI_congr k (fun i hi => h i (by omega)), h k (by omega)]
/-- A piece that begins later lets nothing through. -/
theorem thr_hi {Z : List Int} {m : Nat} (hl : Z.length = m * 3) {a b t x y : Int} (h : b ≤ t) : thr (Z ++ [t, x, y]) (m + 1) a b = thr Z m a b := by
  unfold thr
  show thrI (Z ++ [t, x, y]) (m + 1) a b m + share (Z ++ [t, x, y]) (m + 1) a b m = _
  have e1 : share (Z ++ [t, x, y]) (m + 1) a b m = 0 := by
    unfold share
    rw [if_neg (by omega), getD_new [t, x, y] (j := m * 3) (i := 0) (by omega)]
    exact seg_no (by show b ≤ max a t; omega)
  rw [e1, Int.add_zero]
  apply thrI_congr
  intro i hi
  unfold share
  rw [getD_app _ (by omega), getD_app _ (by omega), getD_app _ (by omega), if_pos (by omega)]
  by_cases g : i + 1 < m
  · rw [if_pos g, getD_app _ (by omega)]
  · rw [if_neg g, getD_new [t, x, y] (j := (i + 1) * 3) (i := 0) (by omega)]
    have : min b t = b := by omega
    show seg _ _ _ (min b t) = _
    rw [this]
/-- A piece that begins at t. -/
theorem thr_lo {Z : List Int} {m : Nat} (hl : Z.length = m * 3) {a b t x y : Int} (hf : ∀ i, i < m → Z.getD (i * 3) 0 ≤ t) (h : t ≤ b) : thr (Z ++ [t, x, y]) (m + 1) a b = thr Z m a t + seg x y (max a t) b := by
  unfold thr
  show thrI (Z ++ [t, x, y]) (m + 1) a b m + share (Z ++ [t, x, y]) (m + 1) a b m = _
  have e1 : share (Z ++ [t, x, y]) (m + 1) a b m = seg x y (max a t) b := by
    unfold share
    rw [if_neg (by omega), getD_new [t, x, y] (j := m * 3) (i := 0) (by omega), getD_new [t, x, y] (j := m * 3 + 1) (i := 1) (by omega), getD_new [t, x, y] (j := m * 3 + 2) (i := 2) (by omega)]
    rfl
  rw [e1]
  congr 1
  apply thrI_congr
  intro i hi
  unfold share
  rw [getD_app _ (by omega), getD_app _ (by omega), getD_app _ (by omega), if_pos (by omega)]
  by_cases g : i + 1 < m
  · have := hf (i + 1) g
    rw [if_pos g, getD_app _ (by omega)]
    have : min b (Z.getD ((i + 1) * 3) 0) = min t (Z.getD ((i + 1) * 3) 0) := by omega
    rw [this]
  · rw [if_neg g, getD_new [t, x, y] (j := (i + 1) * 3) (i := 0) (by omega)]
    have : min b t = t := by omega
    show seg _ _ _ (min b t) = _
    rw [this]

/-- Sizes of what was sent (two numbers each: when, how much), from the i-th to ahead of the k-th. -/
def sz (G : List Int) (i : Nat) : Nat → Int
  | 0 => 0
  | k + 1 => if i ≤ k then sz G i k + G.getD (k * 2 + 1) 0 else 0
theorem sz_start (G : List Int) (i : Nat) : sz G i i = 0 := by
  cases i with
  | zero => rfl
  | succ i => show (if i + 1 ≤ i then _ else 0) = 0; rw [if_neg (by omega)]
theorem sz_step (G : List Int) {i k : Nat} (h : i ≤ k) : sz G i (k + 1) = sz G i k + G.getD (k * 2 + 1) 0 := by
  show (if i ≤ k then _ else 0) = _; rw [if_pos h]
theorem sz_app {G : List Int} (V : List Int) {g : Nat} (hl : G.length = g * 2) (i : Nat) : ∀ k : Nat, k ≤ g → sz (G ++ V) i k = sz G i k
  | 0, _ => rfl
  | k + 1, h => by
    show (if i ≤ k then sz (G ++ V) i k + (G ++ V).getD (k * 2 + 1) 0 else 0) = (if i ≤ k then sz G i k + G.getD (k * 2 + 1) 0 else 0)
    rw [sz_app V hl i k (by omega), getD_app V (by omega)]
theorem sz_lo {G : List Int} (h : ∀ j, 0 ≤ G.getD (j * 2 + 1) 0) (i : Nat) : ∀ k : Nat, 0 ≤ sz G i k
  | 0 => by simp [sz]
  | k + 1 => by
    have := sz_lo h i k; have := h k
    show 0 ≤ (if i ≤ k then sz G i k + G.getD (k * 2 + 1) 0 else 0)
    split <;> omega
theorem sz_hi {G : List Int} {c : Int} (hc : 0 ≤ c) (h : ∀ j, G.getD (j * 2 + 1) 0 ≤ c) (i : Nat) : ∀ k : Nat, sz G i k ≤ k * c
  | 0 => by simp [sz]
  | k + 1 => by
    have := sz_hi hc h i k; have := h k
    have e : ((k + 1 : Nat) : Int) * c = k * c + c := by push_cast; rw [Int.add_mul, Int.one_mul]
    have : 0 ≤ (k : Int) * c := Int.mul_nonneg (by omega) hc
    show (if i ≤ k then sz G i k + G.getD (k * 2 + 1) 0 else 0) ≤ _
    rw [e]
    split <;> omega

/-- What a filling does, in parts of a token. -/
theorem fill_parts {s : BS} (h : s.Ok) {t x y : Int} (ht : s.t ≤ t) (ht1 : t ≤ 9007199254740991) (hm : may x y = true) : (s.fill t x y).n * y + (s.fill t x y).keep x y ≤ s.n * y + s.flow t x y := by
  obtain ⟨⟨x0, x1⟩, ⟨y0, y1⟩⟩ := may_true hm
  have f0 := BS.flow_lo h y ht x0
  have key := Int.mul_ediv_add_emod (s.flow t x y) y
  have m0 : 0 ≤ s.flow t x y % y := Int.emod_nonneg _ (by omega)
  have e : s.lvl t x y * y = s.n * y + y * (s.flow t x y / y) := by unfold BS.lvl; rw [Int.add_mul, Int.mul_comm (s.flow t x y / y) y]
  rw [fill_exact h ht ht1 hm]
  by_cases hb : s.b ≤ s.lvl t x y
  · rw [if_pos hb]
    have k : BS.keep ⟨s.b, s.b, 0, t, x, y⟩ x y = 0 := if_pos ⟨rfl, rfl⟩
    have := Int.mul_le_mul_of_nonneg_right hb (by omega : 0 ≤ y)
    rw [k]; dsimp only; omega
  · rw [if_neg hb]
    have k : BS.keep ⟨s.b, s.lvl t x y, s.flow t x y % y, t, x, y⟩ x y = s.flow t x y % y := if_pos ⟨rfl, rfl⟩
    rw [k]; dsimp only; omega

/-- A pacer on its way: bucket s, rate X / Y, time t; m pieces Z; g packets G that went. -/
structure Pl (n : Int) (s : BS) (X Y t : Int) (Z : List Int) (m : Nat) (G : List Int) (g : Nat) : Prop where
  ok : s.Ok
  b : s.b = n
  st : s.t ≤ t
  t0 : 0 ≤ t
  may : may X Y = true
  zl : Z.length = m * 3
  m0 : 0 < m
  gl : G.length = g * 2
  zf : ∀ i, i < m → 0 ≤ Z.getD (i * 3) 0 ∧ Z.getD (i * 3) 0 ≤ s.t
  zn : ∀ i, i < m → 0 ≤ Z.getD (i * 3 + 1) 0 ∧ Z.getD (i * 3 + 1) 0 ≤ 5242880
  zd : ∀ i, i < m → 1 ≤ Z.getD (i * 3 + 2) 0 ∧ Z.getD (i * 3 + 2) 0 ≤ 4294967296
  zs : ∀ i, i + 1 < m → Z.getD (i * 3) 0 ≤ Z.getD ((i + 1) * 3) 0
  zx : Z.getD ((m - 1) * 3 + 1) 0 = X
  zy : Z.getD ((m - 1) * 3 + 2) 0 = Y
  ga : ∀ i, i < g → 0 ≤ G.getD (i * 2) 0 ∧ G.getD (i * 2) 0 ≤ s.t
  gz : ∀ i, i < g → 1 ≤ G.getD (i * 2 + 1) 0 ∧ G.getD (i * 2 + 1) 0 ≤ 3000
  cur : ∀ i, i < g → ∃ W A, A ≤ s.t ∧ (sz G i g + s.n - W) * Y + s.keep X Y ≤ (s.t - A) * X + Y - 1 ∧ ∀ to, s.t ≤ to → n + thr Z m (G.getD (i * 2) 0) to = W + seg X Y A to
  all : ∀ i k, i ≤ k → k < g → sz G i (k + 1) ≤ n + thr Z m (G.getD (i * 2) 0) (G.getD (k * 2) 0)
  full : g = 0 → s.n = s.b
theorem pl_later {n : Int} {s : BS} {X Y t u : Int} {Z : List Int} {m : Nat} {G : List Int} {g : Nat} (h : Pl n s X Y t Z m G g) (hu : t ≤ u) : Pl n s X Y u Z m G g :=
  { h with st := by have := h.st; omega, t0 := by have := h.t0; omega }
theorem pl_start {n : Int} (h0 : 1 ≤ n) (h1 : n ≤ 1073741824) : Pl n (BS.new n 0) 0 1 0 [0, 0, 1] 1 [] 0 :=
  { ok := BS.new_ok (by unfold BS.newE; rw [if_pos ⟨⟨h0, h1⟩, rfl⟩]), b := rfl, st := Int.le_refl _, t0 := Int.le_refl _, may := by decide, zl := rfl, m0 := by omega, gl := rfl,
    zf := fun i hi => by obtain rfl : i = 0 := by omega
                         exact ⟨Int.le_refl _, Int.le_refl _⟩
    zn := fun i hi => by obtain rfl : i = 0 := by omega
                         exact ⟨Int.le_refl _, by decide⟩
    zd := fun i hi => by obtain rfl : i = 0 := by omega
                         exact ⟨Int.le_refl _, by decide⟩
    zs := fun i hi => by omega
    zx := rfl, zy := rfl
    ga := fun i hi => by omega
    gz := fun i hi => by omega
    cur := fun i hi => by omega
    all := fun i k _ hk => by omega
    full := fun _ => rfl }
/-- Filled up to its time. -/
theorem pl_fill {n : Int} {s : BS} {X Y t : Int} {Z : List Int} {m : Nat} {G : List Int} {g : Nat} (h : Pl n s X Y t Z m G g) (ht : t ≤ 9007199254740991) : Pl n (s.fill t X Y) X Y t Z m G g := by
  have ft := fill_t h.ok h.st ht h.may
  have fb := fill_b h.ok h.st ht h.may
  have hst := h.st
  refine { h with ok := BS.fill_ok h.ok h.t0 ht h.may, b := fb.trans h.b, st := by omega, zf := ?_, ga := ?_, cur := ?_, full := ?_ }
  · intro i hi; have := h.zf i hi; omega
  · intro i hi; have := h.ga i hi; omega
  · intro i hi
    obtain ⟨W, A, a0, a1, a2⟩ := h.cur i hi
    refine ⟨W, A, by omega, ?_, fun to hto => a2 to (by omega)⟩
    have hp := fill_parts h.ok h.st ht h.may
    rw [ft]
    unfold BS.flow at hp
    have e1 : (t - A) * X = (s.t - A) * X + (t - s.t) * X := by rw [← Int.add_mul]; congr 1; omega
    have e2 : ∀ z : Int, (sz G i g + z - W) * Y = (sz G i g - W) * Y + z * Y := fun z => by rw [← Int.add_mul]; congr 1; omega
    rw [e2] at a1 ⊢
    rw [e1]; omega
  · intro hg
    have h1 := h.full hg
    obtain ⟨⟨x0, x1⟩, ⟨y0, y1⟩⟩ := may_true h.may
    have := fill_more h.ok h.st ht h.may
    have := (BS.fill_ok h.ok h.t0 ht h.may).n1
    omega
/-- Another rate, at its time. -/
theorem pl_set {n : Int} {s : BS} {X Y t : Int} {Z : List Int} {m : Nat} {G : List Int} {g : Nat} (h : Pl n s X Y t Z m G g) (hs : s.t = t) {x y : Int} (x0 : 0 ≤ x) (x1 : x ≤ 5242880) (y0 : 1 ≤ y) (y1 : y ≤ 4294967296) :
    Pl n s x y t (Z ++ [t, x, y]) (m + 1) G g := by
  obtain ⟨⟨X0, X1⟩, ⟨Y0, Y1⟩⟩ := may_true h.may
  have hl := h.zl
  have e0 : (Z ++ [t, x, y]).getD (m * 3) 0 = t := getD_new [t, x, y] (i := 0) (by omega)
  have e1 : (Z ++ [t, x, y]).getD (m * 3 + 1) 0 = x := getD_new [t, x, y] (i := 1) (by omega)
  have e2 : (Z ++ [t, x, y]).getD (m * 3 + 2) 0 = y := getD_new [t, x, y] (i := 2) (by omega)
  have hf : ∀ i, i < m → Z.getD (i * 3) 0 ≤ t := fun i hi => by have := (h.zf i hi).2; omega
  have ht0 := h.t0
  refine { h with may := may_yes x0 (by omega) y0 (by omega), zl := by simp; omega, m0 := by omega, zf := ?_, zn := ?_, zd := ?_, zs := ?_, zx := by rw [show m + 1 - 1 = m by omega]; exact e1, zy := by rw [show m + 1 - 1 = m by omega]; exact e2, cur := ?_, all := ?_ }
  · intro i hi
    by_cases g : i < m
    · rw [getD_app _ (by omega)]; exact h.zf i g
    · obtain rfl : i = m := by omega
      rw [e0]; omega
  · intro i hi
    by_cases g : i < m
    · rw [getD_app _ (by omega)]; exact h.zn i g
    · obtain rfl : i = m := by omega
      rw [e1]; omega
  · intro i hi
    by_cases g : i < m
    · rw [getD_app _ (by omega)]; exact h.zd i g
    · obtain rfl : i = m := by omega
      rw [e2]; omega
  · intro i hi
    rw [getD_app _ (by omega)]
    by_cases g : i + 1 < m
    · rw [getD_app _ (by omega)]; exact h.zs i g
    · have : i + 1 = m := by omega
      rw [this, e0]; exact hf i (by omega)
  · intro i hi
    obtain ⟨W, A, a0, a1, a2⟩ := h.cur i hi
    have ha := (h.ga i hi).2
    have sg := seg_le (x := X) (y := Y) (a := A) (b := t) (by omega) (by omega)
    refine ⟨W + seg X Y A t, t, by omega, ?_, fun to hto => ?_⟩
    · have k0 := BS.keep_lo h.ok X Y
      have k1 := BS.keep_hi h.ok (x := x) (y := y) y0
      have hq : sz G i g + s.n - W ≤ ((t - A) * X + Y - 1) / Y := by
        rw [Int.le_ediv_iff_mul_le (by omega)]; rw [hs] at a1; omega
      have hle : (sz G i g + s.n - (W + seg X Y A t)) * y ≤ 0 * y := Int.mul_le_mul_of_nonneg_right (by omega) (by omega)
      have : s.t - t = 0 := by omega
      rw [this]; omega
    · rw [thr_lo hl hf (by omega), show max (G.getD (i * 2) 0) t = t by omega]
      have := a2 t (by omega)
      omega
  · intro i k hik hk
    have hk2 := (h.ga k hk).2
    rw [thr_hi hl (by omega)]
    exact h.all i k hik hk
theorem thr_now {n : Int} {s : BS} {X Y t : Int} {Z : List Int} {m : Nat} {G : List Int} {g : Nat} (h : Pl n s X Y t Z m G g) {a to : Int} (ha : s.t ≤ a) (hto : a ≤ to) : thr Z m a to = seg X Y a to := by
  have hz : ∀ k : Nat, k + 1 ≤ m → thrI Z m a to k = 0 := by
    intro k
    induction k with
    | zero => intro _; rfl
    | succ k ih =>
      intro hk
      have hf := (h.zf (k + 1) (by omega)).2
      show thrI Z m a to k + share Z m a to k = 0
      have : share Z m a to k = 0 := by
        unfold share
        rw [if_pos (by omega)]
        exact seg_no (by omega)
      rw [ih (by omega), this]; rfl
  obtain ⟨j, hj⟩ : ∃ j, m = j + 1 := ⟨m - 1, by have := h.m0; omega⟩
  have zx := h.zx; have zy := h.zy
  have hf := (h.zf j (by omega)).2
  have hk := hz j (by omega)
  rw [show m - 1 = j by omega] at zx zy
  have hs : share Z m a to j = seg X Y a to := by
    unfold share
    rw [if_neg (by omega), zx, zy, show max a (Z.getD (j * 3) 0) = a by omega]
  have e : thr Z m a to = thrI Z m a to (j + 1) := by unfold thr; rw [← hj]
  rw [e]
  show thrI Z m a to j + share Z m a to j = _
  rw [hk, hs]; omega
/-- A packet goes, at its time. -/
theorem pl_send {n : Int} {s : BS} {X Y t : Int} {Z : List Int} {m : Nat} {G : List Int} {g : Nat} (h : Pl n s X Y t Z m G g) (hs : s.t = t) {z : Int} (z0 : 1 ≤ z) (z1 : z ≤ 3000) (z2 : z ≤ s.n) :
    Pl n (s.taken z) X Y t Z m (G ++ [t, z]) (g + 1) := by
  obtain ⟨⟨X0, X1⟩, ⟨Y0, Y1⟩⟩ := may_true h.may
  have hl := h.gl
  have e0 : (G ++ [t, z]).getD (g * 2) 0 = t := getD_new [t, z] (i := 0) (by omega)
  have e1 : (G ++ [t, z]).getD (g * 2 + 1) 0 = z := getD_new [t, z] (i := 1) (by omega)
  have et : s.taken z = ⟨s.b, s.n - z, s.r, s.t, s.num, s.den⟩ := BS.taken_yes (BS.takeE_yes (by omega) z2)
  have ek : (s.taken z).keep X Y = s.keep X Y := by rw [et]; rfl
  have ht0 := h.t0
  have hsum : ∀ i, i ≤ g → sz (G ++ [t, z]) i (g + 1) = sz G i g + z := fun i hi => by
    rw [sz_step _ hi, sz_app _ hl i g (Nat.le_refl _), e1]
  have hcur : ∀ i, i < g + 1 → ∃ W A, A ≤ s.t ∧ (sz (G ++ [t, z]) i (g + 1) + (s.n - z) - W) * Y + s.keep X Y ≤ (s.t - A) * X + Y - 1 ∧ ∀ to, s.t ≤ to → n + thr Z m ((G ++ [t, z]).getD (i * 2) 0) to = W + seg X Y A to := by
    intro i hi
    rw [hsum i (by omega)]
    by_cases q : i < g
    · obtain ⟨W, A, a0, a1, a2⟩ := h.cur i q
      refine ⟨W, A, a0, ?_, ?_⟩
      · have : sz G i g + z + (s.n - z) - W = sz G i g + s.n - W := by omega
        rw [this]; exact a1
      · rw [getD_app _ (by omega)]; exact a2
    · obtain rfl : i = g := by omega
      rw [sz_start, e0]
      have hn := h.ok.n1
      have hb := h.b
      have k1 := BS.keep_hi h.ok (x := X) (y := Y) Y0
      refine ⟨n, t, by omega, ?_, fun to hto => by rw [thr_now h (by omega) (by omega)]⟩
      have : (0 + z + (s.n - z) - n) * Y ≤ 0 * Y := Int.mul_le_mul_of_nonneg_right (by omega) (by omega)
      have e : s.t - t = 0 := by omega
      rw [e]; omega
  have hnew : ∀ i, i < g + 1 → sz (G ++ [t, z]) i (g + 1) ≤ n + thr Z m ((G ++ [t, z]).getD (i * 2) 0) t := by
    intro i hi
    obtain ⟨W, A, a0, a1, a2⟩ := hcur i hi
    have k0 := BS.keep_lo h.ok X Y
    have hq : sz (G ++ [t, z]) i (g + 1) + (s.n - z) - W ≤ ((s.t - A) * X + Y - 1) / Y := by
      rw [Int.le_ediv_iff_mul_le (by omega)]; omega
    have sg := seg_le (x := X) (y := Y) (a := A) (b := s.t) (by omega) a0
    have := a2 s.t (Int.le_refl _)
    rw [hs] at this sg hq
    omega
  refine { h with ok := BS.taken_ok h.ok z, b := by rw [et]; exact h.b, st := by rw [et]; exact h.st, zf := by rw [et]; exact h.zf, gl := by simp; omega, ga := ?_, gz := ?_, cur := ?_, all := ?_, full := fun hg => by omega }
  · intro i hi
    rw [et]; dsimp only
    by_cases q : i < g
    · rw [getD_app _ (by omega)]; exact h.ga i q
    · obtain rfl : i = g := by omega
      rw [e0]; omega
  · intro i hi
    by_cases q : i < g
    · rw [getD_app _ (by omega)]; exact h.gz i q
    · obtain rfl : i = g := by omega
      rw [e1]; omega
  · intro i hi
    rw [ek, et]; exact hcur i hi
  · intro i k hik hk
    by_cases q : k < g
    · rw [sz_app _ hl i (k + 1) (by omega), getD_app _ (by omega), getD_app _ (by omega)]
      exact h.all i k hik q
    · obtain rfl : k = g := by omega
      rw [e0]; exact hnew i (by omega)
end Go.Proofs.Ytcholjdbmmgakaa.Sat
