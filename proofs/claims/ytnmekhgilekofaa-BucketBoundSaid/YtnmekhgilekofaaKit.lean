/- Worlds that have only grown; blocks and their cells. -/
import Derived.Test.YtnmekhgilekofaaWorksA
namespace Go.Proofs.Ytnmekhgilekofaa
open Go.RowKit

theorem bcell {W w1 : World} (hb : Below W.heap.size W w1) : (∀ b o, b < W.heap.size → w1.cell? ⟨b, o, none⟩ = W.cell? ⟨b, o, none⟩) ∧ (∀ b o, b < W.heap.size → w1.frozen? ⟨b, o, none⟩ = W.frozen? ⟨b, o, none⟩) :=
  ⟨fun b o h => hb.cell (p := ⟨b, o, none⟩) h, fun b o h => hb.frozen (p := ⟨b, o, none⟩) h⟩
theorem cellOf {w : World} {k o : Nat} {cs : Array Value} {t : TypeId} {v : Value} (h : w.heap[k]? = some (.cells cs t (0, 0))) (hv : cs[o]? = some v) : w.cell? ⟨k, o, none⟩ = some v := by
  simp only [World.cell?, h]; exact hv
theorem freeOf {w : World} {k o : Nat} {cs : Array Value} {t : TypeId} (h : w.heap[k]? = some (.cells cs t (0, 0))) : w.frozen? ⟨k, o, none⟩ = false := by
  simp [World.frozen?, h]
theorem agg4_cells {w : World} {k : Nat} {x0 x1 x2 x3 : Value} {t : TypeId} (h : w.heap[k]? = some (.cells #[x0, x1, x2, x3] t (0, 0))) :
    w.cell? ⟨k, 0, none⟩ = some x0 ∧ w.cell? ⟨k, 1, none⟩ = some x1 ∧ w.cell? ⟨k, 2, none⟩ = some x2 ∧ w.cell? ⟨k, 3, none⟩ = some x3 :=
  ⟨cellOf h rfl, cellOf h rfl, cellOf h rfl, cellOf h rfl⟩
theorem keep4 {w w1 : World} {k : Nat} {x0 x1 x2 x3 : Value} (hb : Below w.heap.size w w1) (hk : k < w.heap.size) (h0 : w.cell? ⟨k, 0, none⟩ = some x0) (h1 : w.cell? ⟨k, 1, none⟩ = some x1) (h2 : w.cell? ⟨k, 2, none⟩ = some x2) (h3 : w.cell? ⟨k, 3, none⟩ = some x3) :
    w1.cell? ⟨k, 0, none⟩ = some x0 ∧ w1.cell? ⟨k, 1, none⟩ = some x1 ∧ w1.cell? ⟨k, 2, none⟩ = some x2 ∧ w1.cell? ⟨k, 3, none⟩ = some x3 :=
  ⟨(hb.cell (p := ⟨k, 0, none⟩) hk).trans h0, (hb.cell (p := ⟨k, 1, none⟩) hk).trans h1, (hb.cell (p := ⟨k, 2, none⟩) hk).trans h2, (hb.cell (p := ⟨k, 3, none⟩) hk).trans h3⟩
theorem at_old {B k : Nat} {w w' : World} {o : Obj} (hb : Below B w w') (hk : k < B) (h : w.heap[k]? = some o) : w'.heap[k]? = some o := (hb.block k hk).trans h
theorem new_at (w : World) (o : Obj) : (w.alloc o).heap[w.heap.size]? = some o := heap_alloc_new w o
theorem old_at {w : World} {k : Nat} {o : Obj} (o' : Obj) (h : w.heap[k]? = some o) : (w.alloc o').heap[k]? = some o := (Below.heap_alloc w o' k (lt_of_block h)).trans h
theorem Gr.drew {B : Nat} {w0 w : World} (h : Gr B w0 w) : Gr B w0 w.drew := ⟨h.1.drew, h.2⟩
theorem Gr.alloc {B : Nat} {w0 w : World} (h : Gr B w0 w) (o : Obj) : Gr B w0 (w.alloc o) := ⟨h.1.alloc h.2 o, Nat.le_trans h.2 (by simp)⟩
theorem Gr.setCell {B : Nat} {w0 w : World} (h : Gr B w0 w) {p : Addr} (hp : B ≤ p.block) (u : Value) : Gr B w0 (w.setCell p u) := ⟨h.1.setCell hp u, by simpa [World.setCell] using h.2⟩

end Go.Proofs.Ytnmekhgilekofaa
