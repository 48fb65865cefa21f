/- One block of memory that a call has changed; all else has only grown. -/
import Derived.Test.YtnmekhgilekofaaKit
namespace Go.Proofs.Ytnmekhgilekofaa
open Go.RowKit

/-- Block a alone may have changed. -/
structure Ch (a : Nat) (w w' : World) : Prop where
  os : w'.os = w.os
  tape : w'.tape = w.tape
  output : w'.output = w.output
  size : w.heap.size ≤ w'.heap.size
  block : ∀ k, k < w.heap.size → k ≠ a → w'.heap[k]? = w.heap[k]?

theorem Ch.refl (a : Nat) (w : World) : Ch a w w := ⟨rfl, rfl, rfl, Nat.le_refl _, fun _ _ _ => rfl⟩
theorem Ch.of_below {a : Nat} {w w' : World} (h : Below w.heap.size w w') : Ch a w w' := ⟨h.os, h.tape, h.output, h.size, fun k hk _ => h.block k hk⟩
theorem Ch.trans {a : Nat} {x y z : World} (h : Ch a x y) (g : Ch a y z) : Ch a x z :=
  ⟨g.os.trans h.os, g.tape.trans h.tape, g.output.trans h.output, Nat.le_trans h.size g.size, fun k hk hn => (g.block k (Nat.lt_of_lt_of_le hk h.size) hn).trans (h.block k hk hn)⟩
theorem Ch.set (w : World) (a i : Nat) (v : Value) : Ch a w (w.setCell ⟨a, i, none⟩ v) :=
  ⟨rfl, rfl, rfl, by simp [World.setCell], fun k _ hn => Below.heap_setCell _ _ _ _ hn⟩
theorem Ch.drewN {a : Nat} {w w' : World} (h : Ch a w w') (n : Nat) : Ch a w (w'.drewN n) := ⟨h.os, h.tape, h.output, h.size, h.block⟩
theorem Ch.drew {a : Nat} {w w' : World} (h : Ch a w w') : Ch a w w'.drew := ⟨h.os, h.tape, h.output, h.size, h.block⟩
theorem Ch.at {a k : Nat} {w w' : World} {o : Obj} (h : Ch a w w') (hn : k ≠ a) (g : w.heap[k]? = some o) : w'.heap[k]? = some o := (h.block k (lt_of_block g) hn).trans g
theorem Ch.below {a B : Nat} {w0 w w' : World} (h : Ch a w w') (g : Below B w0 w) (hB : B ≤ a) (hs : B ≤ w.heap.size) : Below B w0 w' :=
  g.trans ⟨h.os, h.tape, h.output, h.size, fun k hk => h.block k (by omega) (by omega)⟩
theorem Gr.ch {a B : Nat} {w0 w w' : World} (g : Gr B w0 w) (h : Ch a w w') (hB : B ≤ a) : Gr B w0 w' := ⟨h.below g.1 hB g.2, Nat.le_trans g.2 h.size⟩
/-- A block that is new is not seen from the first world on. -/
theorem Ch.below_new {a : Nat} {w w' : World} (h : Ch a w w') (ha : w.heap.size ≤ a) : Below w.heap.size w w' := ⟨h.os, h.tape, h.output, h.size, fun k hk => h.block k hk (by omega)⟩

theorem set_at {w : World} {a i : Nat} {v : Value} {cs : Array Value} {t : TypeId} (h : w.heap[a]? = some (.cells cs t (0, 0))) : (w.setCell ⟨a, i, none⟩ v).heap[a]? = some (.cells (cs.setIfInBounds i v) t (0, 0)) := by
  have hlt := lt_of_block h
  have h' : w.heap[a] = .cells cs t (0, 0) := by simpa [Array.getElem?_eq_getElem hlt] using h
  show (w.heap.modify a _)[a]? = _
  rw [Array.getElem?_eq_getElem (by simpa using hlt), Array.getElem_modify_self, h']
  rfl
theorem drewN_at {w : World} {a : Nat} {o : Obj} (n : Nat) (h : w.heap[a]? = some o) : (w.drewN n).heap[a]? = some o := h

end Go.Proofs.Ytnmekhgilekofaa
