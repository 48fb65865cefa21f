/- Rows of whole numbers in memory of the call's own, beside a bucket and a rate. -/
import Derived.Test.YtnmekhgilekofaaBuckRate
import Derived.Test.YtnmekhgilekofaaListMath
import Derived.OwnWalk
import Derived.Deep.AppendLies
namespace Go.Proofs.Ytnmekhgilekofaa
open Go.RowKit Sat

theorem neTypes {w : World} {i j : Nat} {cs cs' : Array Value} {t t' : TypeId} (h : w.heap[i]? = some (.cells cs t (0, 0))) (h' : w.heap[j]? = some (.cells cs' t' (0, 0))) (ne : t ≠ t') : i ≠ j := fun e => by
  rw [e, h'] at h
  injection h with h; injection h with _ h3; exact ne h3.symm
section
variable {w w' : World} {base : Nat} {e : TypeId} {size : Nat} {v : Value} {n : Nat} {xs : List Value}
theorem rowKeep (h : w.ownsRow base e size v n xs) (k : ∀ (g : Nat) (cur : Array Value), v.ownBlock = some g → w.heap[g]? = some (Obj.cells cur e (0, 0)) → w'.heap[g]? = w.heap[g]?) : w'.ownsRow base e size v n xs := by
  refine ⟨h.1, ?_⟩
  rcases h.2 with hn | ⟨g, cap, cur, rfl, hb, hg, rest⟩
  · exact .inl hn
  · exact .inr ⟨g, cap, cur, rfl, hb, (k g cur rfl hg).trans hg, rest⟩
theorem rowBelow (h : w.ownsRow base e size v n xs) (g : Below w.heap.size w w') : w'.ownsRow base e size v n xs := rowKeep h fun _ _ _ hk => g.block _ (lt_of_block hk)
theorem rowCh {a : Nat} {cs : Array Value} {t : TypeId} (h : w.ownsRow base e size v n xs) (c : Ch a w w') (ha : w.heap[a]? = some (.cells cs t (0, 0))) (ne : e ≠ t) : w'.ownsRow base e size v n xs :=
  rowKeep h fun _ _ _ hk => c.block _ (lt_of_block hk) (neTypes hk ha ne)
theorem rowBlock (h : w.ownsRow base e size v n xs) {g : Nat} (hg : v.ownBlock = some g) : ∃ cur, w.heap[g]? = some (.cells cur e (0, 0)) := by
  rcases h.2 with ⟨rfl, _⟩ | ⟨g', cap, cur, rfl, hb, hk, rest⟩
  · simp [Value.ownBlock] at hg
  · simp [Value.ownBlock] at hg
    subst hg
    exact ⟨cur, hk⟩
theorem rowLt (h : w.ownsRow base e size v n xs) {g : Nat} (hg : v.ownBlock = some g) : g < w.heap.size := by
  obtain ⟨cur, hc⟩ := rowBlock h hg; exact lt_of_block hc
theorem rowFresh (h : w.ownsRow base e size v n xs) : ∀ b, w.heap.size ≤ b → v.ownBlock ≠ some b := fun b hb q => by have := rowLt h q; omega
/-- A block of another type, while a row grows. -/
theorem grownAt {k : Nat} {cs : Array Value} {t : TypeId} (h : w.ownsRow base e size v n xs) (g : w.grownBy w' v.ownBlock) (hk : w.heap[k]? = some (.cells cs t (0, 0))) (ne : t ≠ e) : w'.heap[k]? = some (.cells cs t (0, 0)) := by
  rw [g.block k (lt_of_block hk) (fun q => by obtain ⟨cur, hc⟩ := rowBlock h q.symm; exact neTypes hk hc ne rfl)]
  exact hk
theorem grownGr {B : Nat} {w0 : World} (h : w.ownsRow B e size v n xs) (g : w.grownBy w' v.ownBlock) (r : Gr B w0 w) : Gr B w0 w' := ⟨r.1.grown g r.2 (fun k hk => (h.lt k hk).1), Nat.le_trans r.2 g.size⟩
/-- A block that is none of the row's. -/
theorem grownFar {b : Nat} {o : Obj} (hb : w.heap[b]? = some o) (g : w.grownBy w' v.ownBlock) (ne : v.ownBlock ≠ some b) : w'.heap[b]? = some o :=
  (g.block b (lt_of_block hb) (fun q => ne q.symm)).trans hb
end
theorem newsCells {w : World} {K : Nat} {cs : List Value} {t : TypeId} (h : w.heap[K]? = some (.cells cs.toArray t (0, 0))) : ∀ (j : Nat) (u : Value), cs[j]? = some u → w.cell? ((⟨K, 0, none⟩ : Addr).add j) = some u := by
  intro j u hu
  rw [add_none, Nat.zero_add]
  exact cellOf h (by rw [List.getElem?_toArray]; exact hu)
theorem newAt' {w : World} {k : Nat} {o : Obj} (h : k = w.heap.size) : (w.alloc o).heap[k]? = some o := h ▸ new_at w o
theorem drewAt {w : World} {k : Nat} {o : Obj} (h : w.heap[k]? = some o) : w.drew.heap[k]? = some o := h
theorem rowCells {w : World} {base : Nat} {e : TypeId} {size g n cap : Nat} {Z : List Int} (h : w.ownsRow base e size (.slice (some ⟨g, 0, none⟩) n cap) n (Z.map (Value.int .i64))) {j : Nat} (hj : j < n * size) : w.cell? ⟨g, j, none⟩ = some (.int .i64 (Z.getD j 0)) := by
  have hl : j < Z.length := by have := h.1; simp at this; omega
  rw [h.cellAt j hj, List.getElem?_map, List.getElem?_eq_getElem hl, List.getD_eq_getElem?_getD, List.getElem?_eq_getElem hl]
  rfl
theorem infoInt : (Try.prog.info? 3).map (fun i => (i.zero, i.size, i.bytes)) = some (some (.int .i64 0), 1, 8) := by kernel_rfl

/-- A bucket, and two rows of numbers, in memory of the call's own. -/
structure BB (a : Nat) (s : BS) (v1 v2 : Value) (n1 n2 : Nat) (T M : List Int) (B : Nat) (w0 w : World) : Prop where
  bw : BW a s B w0 w
  r1 : w.ownsRow B 3 1 v1 n1 (T.map (Value.int .i64))
  r2 : w.ownsRow B 3 1 v2 n2 (M.map (Value.int .i64))
  ne : ∀ g, v1.ownBlock = some g → v2.ownBlock ≠ some g
section
variable {a : Nat} {s s' : BS} {v1 v2 : Value} {n1 n2 : Nat} {T M : List Int} {B : Nat} {w0 w w' : World}
theorem BB.step (h : BB a s v1 v2 n1 n2 T M B w0 w) (k : Below w.heap.size w w') : BB a s v1 v2 n1 n2 T M B w0 w' := ⟨h.bw.step k, rowBelow h.r1 k, rowBelow h.r2 k, h.ne⟩
theorem BB.alloc {o : Obj} (h : BB a s v1 v2 n1 n2 T M B w0 w) : BB a s v1 v2 n1 n2 T M B w0 (w.alloc o) := h.step ((Below.refl _ _).alloc (Nat.le_refl _) _)
theorem BB.drew (h : BB a s v1 v2 n1 n2 T M B w0 w) : BB a s v1 v2 n1 n2 T M B w0 w.drew := ⟨h.bw.drew, rowKeep h.r1 fun _ _ _ _ => rfl, rowKeep h.r2 fun _ _ _ _ => rfl, h.ne⟩
theorem BB.to (h : BB a s v1 v2 n1 n2 T M B w0 w) (k : BW a s' B w0 w') (c : Ch a w w') : BB a s' v1 v2 n1 n2 T M B w0 w' := ⟨k, rowCh h.r1 c h.bw.bk (by decide), rowCh h.r2 c h.bw.bk (by decide), h.ne⟩
theorem BB.app1 {g cap : Nat} {x : Int} (h : BB a s v1 v2 n1 n2 T M B w0 w) (o : w'.ownsRow B 3 1 (.slice (some ⟨g, 0, none⟩) (n1 + 1) cap) (n1 + 1) (T.map (Value.int .i64) ++ [.int .i64 x])) (k : w.grownBy w' v1.ownBlock) (hat : v1.ownBlock = some g ∨ g = w.heap.size) :
    BB a s (.slice (some ⟨g, 0, none⟩) (n1 + 1) cap) v2 (n1 + 1) n2 (T ++ [x]) M B w0 w' :=
  ⟨⟨grownAt h.r1 k h.bw.bk (by decide), h.bw.ok, grownGr h.r1 k h.bw.gr, h.bw.ha⟩, by rw [List.map_append]; exact o, rowKeep h.r2 fun q cur hq hk => k.block q (lt_of_block hk) (fun e => h.ne q e.symm hq), fun q hq => by
    obtain rfl : g = q := by simpa [Value.ownBlock] using hq
    rcases hat with e | e
    · exact h.ne g e
    · exact rowFresh h.r2 g (by omega)⟩
theorem BB.app2 {g cap : Nat} {x : Int} (h : BB a s v1 v2 n1 n2 T M B w0 w) (o : w'.ownsRow B 3 1 (.slice (some ⟨g, 0, none⟩) (n2 + 1) cap) (n2 + 1) (M.map (Value.int .i64) ++ [.int .i64 x])) (k : w.grownBy w' v2.ownBlock) (hat : v2.ownBlock = some g ∨ g = w.heap.size) :
    BB a s v1 (.slice (some ⟨g, 0, none⟩) (n2 + 1) cap) n1 (n2 + 1) T (M ++ [x]) B w0 w' :=
  ⟨⟨grownAt h.r2 k h.bw.bk (by decide), h.bw.ok, grownGr h.r2 k h.bw.gr, h.bw.ha⟩, rowKeep h.r1 fun q cur hq hk => k.block q (lt_of_block hk) (fun e => h.ne q hq e.symm), by rw [List.map_append]; exact o, fun q hq hq2 => by
    obtain rfl : g = q := by simpa [Value.ownBlock] using hq2
    rcases hat with e | e
    · exact h.ne g hq e
    · exact rowFresh h.r1 g (by omega) hq⟩
end
/-- The six numbers of the three rates, in a block. -/
def X6 (k : Nat) (x0 x1 x2 x3 x4 x5 : Int) (w : World) : Prop := w.heap[k]? = some (.cells #[.int .i64 x0, .int .i64 x1, .int .i64 x2, .int .i64 x3, .int .i64 x4, .int .i64 x5] 45 (0, 0))
end Go.Proofs.Ytnmekhgilekofaa
