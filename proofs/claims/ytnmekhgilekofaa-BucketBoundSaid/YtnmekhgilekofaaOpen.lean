/- Arguments that hold integers alone, opened: integers, arrays, structs of one-cell fields, slices of these. No function of the program. -/
import Derived.ProofKit
import Derived.OpenShut
import Derived.ChangeOld
import Derived.Below
import Derived.OneCell
import Derived.Deep.Slices
import Derived.Deep.Fields
import Derived.ChangeSame
namespace Go.Proofs.Ytnmekhgilekofaa
open Go.ChangeShapes Go.WideShapes Go.Deep Go.RowKit

/-- Whatever is read as data of type t has cells that are ints. -/
def IntT (P : Program) (t : TypeId) : Prop :=
  ∀ (H : Type) (enc : TypeId × Value → H) (w : World) (base : Nat) (spare : Nat → Bool) (held : Bool) (m : Nat) (cs : List Value) (x : DataW H × List MemPlace),
    DataW.trod enc P w base spare held m t cs = some x → cs.length = P.cellsOf t ∧ ∀ v ∈ cs, ∃ n, v = .int .i64 n ∧ (Lit.int .i64 n).wf = true

theorem IntT.int {P : Program} {t : TypeId} (h : P.underlying t = some (.int .i64)) (hc : P.cellsOf t = 1) : IntT P t := by
  intro H enc w base spare held m cs x hx
  obtain ⟨n, rfl, _, hw⟩ := DataW.trod_int h hx
  refine ⟨by simp [hc], fun v hv => ?_⟩
  simp only [List.mem_singleton] at hv
  exact ⟨n, hv, hw⟩

theorem mem_chunk {α : Type} {cs : List α} {v : α} {n c : Nat} (hl : cs.length = n * c) (hc : 0 < c) (hv : v ∈ cs) : ∃ i, i < n ∧ v ∈ (cs.drop (i * c)).take c := by
  obtain ⟨j, hj, rfl⟩ := List.getElem_of_mem hv
  have hn : j / c < n := by rw [Nat.div_lt_iff_lt_mul hc]; omega
  have e : c * (j / c) + j % c = j := Nat.div_add_mod j c
  have e2 : j / c * c + j % c = j := by rw [Nat.mul_comm]; exact e
  have hm : j % c < c := Nat.mod_lt _ hc
  refine ⟨j / c, hn, ?_⟩
  rw [List.mem_take_iff_getElem]
  refine ⟨j % c, by rw [List.length_drop]; omega, ?_⟩
  rw [List.getElem_drop]
  congr 1

theorem IntT.array {P : Program} {t e : TypeId} {n : Nat} (h : P.underlying t = some (.array n e)) (hc : P.cellsOf t = n * P.cellsOf e) (hp : 0 < P.cellsOf e) (he : IntT P e) : IntT P t := by
  intro H enc w base spare held m cs x hx
  obtain ⟨xs, k, _, _, hl, hn, hel⟩ := DataW.trod_array h hx
  refine ⟨hl, fun v hv => ?_⟩
  obtain ⟨i, hi, hv'⟩ := mem_chunk (by rw [hl, hc]) hp hv
  have g := hel i hi
  rw [List.getElem?_eq_getElem (by omega)] at g
  exact (he H enc w base spare held k _ _ g).2 v hv'

theorem IntT.struct {P : Program} {t : TypeId} {fs : Array Field} (h : P.underlying t = some (.struct fs)) (hone : oneCellFields P fs = true) (hc : P.cellsOf t = fs.size) (hf : ∀ (i : Nat) (f : Field), fs[i]? = some f → IntT P f.type) : IntT P t := by
  intro H enc w base spare held m cs x hx
  obtain ⟨xs, k, _, _, hl, hn, hel⟩ := DataW.trod_struct h hx
  refine ⟨hl, fun v hv => ?_⟩
  obtain ⟨j, hj, rfl⟩ := List.getElem_of_mem hv
  have hjf : j < fs.size := by omega
  have hfj : fs[j]? = some fs[j] := Array.getElem?_eq_getElem hjf
  obtain ⟨ho, hk⟩ := hone_of hone j _ hfj
  have g := hel j _ hfj
  rw [ho, hk, List.getElem?_eq_getElem (by omega)] at g
  refine (hf j _ hfj H enc w base spare held k _ _ g).2 _ ?_
  have e1 : (cs.drop j).take 1 = [cs[j]] := by rw [List.drop_eq_getElem_cons hj]; rfl
  rw [e1]
  exact List.mem_singleton.2 rfl

theorem ints_list {cs : List Value} (h : ∀ v ∈ cs, ∃ n, v = .int .i64 n ∧ (Lit.int .i64 n).wf = true) : ∃ zs : List Int, cs = zs.map (Value.int .i64) ∧ zs.length = cs.length ∧ ∀ n ∈ zs, (Lit.int .i64 n).wf = true := by
  induction cs with
  | nil => exact ⟨[], rfl, rfl, fun _ h => by cases h⟩
  | cons c cs ih =>
    obtain ⟨zs, rfl, hl, hz⟩ := ih (fun v hv => h v (List.mem_cons_of_mem _ hv))
    obtain ⟨n, rfl, hn⟩ := h c (List.mem_cons_self ..)
    refine ⟨n :: zs, rfl, by simp, fun k hk => ?_⟩
    rcases List.mem_cons.1 hk with rfl | hk
    · exact hn
    · exact hz k hk

/-- An array of whatever depth, or a struct, by value. -/
theorem open_arr_ints {P : Program} {W : World} {r : Reach} {b0 : Nat} {t e : TypeId} {n : Nat} {v : Value} {H : Type} {enc : TypeId × Value → H} {base : Nat} {spare : Nat → Bool} {held : Bool} {d : DataW H} {p : List MemPlace}
    (h : P.underlying t = some (.array n e)) (hi : IntT P t) (hv : Value.okWide P W r b0 t v) (hd : DataW.Trod enc P W base spare held t v d p) :
    ∃ zs : List Int, v = .agg (zs.map (Value.int .i64)).toArray ∧ zs.length = P.cellsOf t ∧ ∀ n ∈ zs, (Lit.int .i64 n).wf = true := by
  simp only [Value.okWide, h] at hv
  obtain ⟨cs, rfl, _, _⟩ := hv
  obtain ⟨m, hm⟩ := hd
  obtain ⟨hl, ha⟩ := hi H enc W base spare held m _ _ hm
  obtain ⟨zs, hz, hzl, hw⟩ := ints_list ha
  refine ⟨zs, ?_, by rw [hzl, hl], hw⟩
  rw [← hz]; simp [Value.cells]

theorem add_none (b off j : Nat) : (⟨b, off, none⟩ : Addr).add j = ⟨b, off + j, none⟩ := by
  unfold Addr.add
  by_cases h : j = 0
  · subst h; rfl
  · rw [if_neg h]
theorem lt_of_cell {w : World} {a : Addr} {v : Value} (h : w.cell? a = some v) : a.block < w.heap.size ∧ a.spot = none := by
  unfold World.cell? at h
  split at h
  · rename_i c _ _ hb
    refine ⟨lt_of_block hb, ?_⟩
    cases hs : a.spot with
    | none => rfl
    | some s => simp [hs] at h
  · cases h

/-- What the walk is told of a slice whose elements take c cells, all ints: it has no element, or it leads to the cells of 'zs', c to an element. -/
def Row (c : Nat) (w : World) (a : Option Addr) (len : Nat) (zs : List Int) : Prop :=
  (len = 0 ∧ zs = []) ∨ ∃ b off, a = some ⟨b, off, none⟩ ∧ b < w.heap.size ∧ zs.length = len * c ∧ ∀ j, j < len * c → w.cell? ⟨b, off + j, none⟩ = some (.int .i64 (zs.getD j 0))

def okI (n : Int) : Prop := -9223372036854775808 ≤ n ∧ n ≤ 9223372036854775807
theorem okI_of {n : Int} (h : (Lit.int .i64 n).wf = true) : okI n := by
  simp [Lit.wf, IntKind.min, IntKind.max, IntKind.signed, IntKind.bits] at h
  unfold okI; omega
theorem okI_getD {zs : List Int} (h : ∀ n ∈ zs, okI n) (j : Nat) : okI (zs.getD j 0) := by
  by_cases hj : j < zs.length
  · rw [List.getD_eq_getElem?_getD, List.getElem?_eq_getElem hj]; exact h _ (List.getElem_mem hj)
  · rw [List.getD_eq_getElem?_getD, List.getElem?_eq_none (by omega)]; unfold okI; simp

theorem open_rows {P : Program} {W : World} {t e : TypeId} {H : Type} {enc : TypeId × Value → H} {base : Nat} {spare : Nat → Bool} {held : Bool} {a0 : Option Addr} {len cap c : Nat} {d : DataW H} {p : List MemPlace}
    (h : P.underlying t = some (.slice e)) (hi : IntT P e) (hc : P.cellsOf e = c) (hp : 0 < c) (hd : DataW.Trod enc P W base spare held t (.slice a0 len cap) d p) :
    ∃ zs : List Int, Row c W a0 len zs ∧ (len ≤ cap ∧ cap ≤ 9223372036854775807) ∧ ∀ n ∈ zs, okI n := by
  obtain ⟨fuel, hf⟩ := hd
  rcases open_slice h hf with ⟨hcs, _⟩ | ⟨a, l, cp, m, n, D, Pl, hcs, hb, hl, hm, hmm, hx, hel⟩
  · simp [Value.cells] at hcs
    obtain ⟨rfl, rfl, rfl⟩ := hcs
    exact ⟨[], .inl ⟨rfl, rfl⟩, by omega, fun n hn => by cases hn⟩
  · simp [Value.cells] at hcs
    obtain ⟨rfl, rfl, rfl⟩ := hcs
    have hlen : len ≤ cap ∧ cap ≤ 9223372036854775807 := by unfold maxLen at hm; omega
    by_cases h0 : len = 0
    · exact ⟨[], .inl ⟨h0, rfl⟩, hlen, fun n hn => by cases hn⟩
    have hle : len ≤ m := by rw [hmm]; split <;> omega
    have key : ∀ j, j < len * c → ∃ n, W.cell? (a.add j) = some (.int .i64 n) ∧ okI n := by
      intro j hj
      have hjc : j / c < len := by rw [Nat.div_lt_iff_lt_mul hp]; exact hj
      obtain ⟨cs', hcell, ht⟩ := hel (j / c) (by omega)
      rw [hc] at hcell
      obtain ⟨_, hcl, hat⟩ := World.cells?_some hcell
      obtain ⟨_, hall⟩ := hi H enc W base spare held n _ _ ht
      have hmod : j % c < c := Nat.mod_lt _ hp
      have hv := hat (j % c) hmod
      rw [Go.Deep.add_add, show j / c * c + j % c = j by rw [Nat.mul_comm]; exact Nat.div_add_mod j c] at hv
      rw [List.getElem?_eq_getElem (by omega)] at hv
      obtain ⟨k, hk, hw⟩ := hall _ (List.getElem_mem (by omega : j % c < cs'.length))
      exact ⟨k, by rw [hv, hk], okI_of hw⟩
    obtain ⟨f, hf'⟩ : ∃ f : Nat → Int, ∀ j, j < len * c → W.cell? (a.add j) = some (.int .i64 (f j)) ∧ okI (f j) :=
      ⟨fun j => if hj : j < len * c then (key j hj).choose else 0, fun j hj => by simp only [dif_pos hj]; exact (key j hj).choose_spec⟩
    have hpos : 0 < len * c := Nat.mul_pos (by omega) hp
    obtain ⟨hblk, hspot⟩ := lt_of_cell (hf' 0 hpos).1
    obtain ⟨b, off, spot⟩ := a
    simp only [Addr.add] at hspot hblk
    subst hspot
    refine ⟨(List.range (len * c)).map f, .inr ⟨b, off, rfl, hblk, by simp, fun j hj => ?_⟩, hlen, fun n hn => ?_⟩
    · have e : ((List.range (len * c)).map f).getD j 0 = f j := by
        rw [List.getD_eq_getElem?_getD, List.getElem?_map, List.getElem?_range hj]; rfl
      rw [e, ← add_none]; exact (hf' j hj).1
    · obtain ⟨j, hj, rfl⟩ := List.mem_map.1 hn
      exact (hf' j (List.mem_range.1 hj)).2

theorem list2 {zs : List Int} (h : zs.length = 2) : ∃ x0 x1, zs = [x0, x1] := by
  match zs, h with
  | [x0, x1], _ => exact ⟨_, _, rfl⟩
theorem list3 {zs : List Int} (h : zs.length = 3) : ∃ x0 x1 x2, zs = [x0, x1, x2] := by
  match zs, h with
  | [x0, x1, x2], _ => exact ⟨_, _, _, rfl⟩
theorem list4 {zs : List Int} (h : zs.length = 4) : ∃ x0 x1 x2 x3, zs = [x0, x1, x2, x3] := by
  match zs, h with
  | [x0, x1, x2, x3], _ => exact ⟨_, _, _, _, rfl⟩
theorem list6 {zs : List Int} (h : zs.length = 6) : ∃ x0 x1 x2 x3 x4 x5, zs = [x0, x1, x2, x3, x4, x5] := by
  match zs, h with
  | [x0, x1, x2, x3, x4, x5], _ => exact ⟨_, _, _, _, _, _, rfl⟩

end Go.Proofs.Ytnmekhgilekofaa
