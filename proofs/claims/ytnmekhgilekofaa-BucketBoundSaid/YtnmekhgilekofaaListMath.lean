/- Sums of lists of numbers, from the front; what was taken, and what came in. No program. -/
import Derived.Test.YtnmekhgilekofaaBuckMathB
namespace Go.Proofs.Ytnmekhgilekofaa.Sat

def isum : List Int → Int
  | [] => 0
  | x :: l => x + isum l
theorem isum_append (l m : List Int) : isum (l ++ m) = isum l + isum m := by
  induction l with
  | nil => simp [isum]
  | cons x l ih => simp only [List.cons_append, isum, ih]; omega
def pre (l : List Int) (k : Nat) : Int := isum (l.take k)
theorem pre_zero (l : List Int) : pre l 0 = 0 := rfl
theorem pre_succ {l : List Int} {k : Nat} (h : k < l.length) : pre l (k + 1) = pre l k + l.getD k 0 := by
  unfold pre
  rw [List.take_add_one, isum_append, List.getElem?_eq_getElem h, List.getD_eq_getElem?_getD, List.getElem?_eq_getElem h]
  simp [isum]
theorem pre_snoc_le {l : List Int} (x : Int) {k : Nat} (h : k ≤ l.length) : pre (l ++ [x]) k = pre l k := by
  unfold pre; rw [List.take_append_of_le_length h]
theorem pre_snoc (l : List Int) (x : Int) : pre (l ++ [x]) (l.length + 1) = pre l l.length + x := by
  rw [pre_succ (by simp), pre_snoc_le x (Nat.le_refl _)]
  simp
theorem pre_bd {l : List Int} {c : Int} (h : ∀ x ∈ l, 0 ≤ x ∧ x ≤ c) : ∀ k : Nat, k ≤ l.length → 0 ≤ pre l k ∧ pre l k ≤ k * c
  | 0, _ => by simp [pre_zero]
  | k + 1, hk => by
    have ih := pre_bd h k (by omega)
    have hx := h (l.getD k 0) (by rw [List.getD_eq_getElem?_getD, List.getElem?_eq_getElem (by omega)]; exact List.getElem_mem _)
    rw [pre_succ (by omega)]
    have : ((k + 1 : Nat) : Int) * c = k * c + c := by push_cast; rw [Int.add_mul, Int.one_mul]
    rw [this]; omega
theorem pre_mono {l : List Int} (h : ∀ x ∈ l, 0 ≤ x) {j : Nat} : ∀ k : Nat, j ≤ k → k ≤ l.length → pre l j ≤ pre l k
  | 0, hj, _ => by have : j = 0 := by omega
                   subst this; exact Int.le_refl _
  | k + 1, hj, hk => by
    by_cases e : j = k + 1
    · subst e; exact Int.le_refl _
    · have ih := pre_mono h (j := j) k (by omega) (by omega)
      have hx := h (l.getD k 0) (by rw [List.getD_eq_getElem?_getD, List.getElem?_eq_getElem (by omega)]; exact List.getElem_mem _)
      rw [pre_succ (by omega)]; omega
theorem getD_snoc_lt {l : List Int} (x : Int) {k : Nat} (h : k < l.length) : (l ++ [x]).getD k 0 = l.getD k 0 := by
  rw [List.getD_eq_getElem?_getD, List.getD_eq_getElem?_getD, List.getElem?_append_left h]

/-- What was taken so far (T), what came in at most (M), c tokens being there: of any two times what was taken is at most n and what came in. -/
structure Bd (n c : Int) (T M : List Int) : Prop where
  len : T.length = M.length
  tb : ∀ x ∈ T, 0 ≤ x ∧ x ≤ n
  mb : ∀ x ∈ M, 0 ≤ x ∧ x ≤ 4503600701112320
  cur : ∀ i, i < T.length → pre T T.length - pre T i + c ≤ n + pre M T.length - pre M (i + 1)
  all : ∀ i k, i ≤ k → k < T.length → pre T (k + 1) - pre T i ≤ n + pre M (k + 1) - pre M (i + 1)
theorem Bd.nil (n c : Int) : Bd n c [] [] where
  len := rfl
  tb := fun x h => by cases h
  mb := fun x h => by cases h
  cur := fun i h => by simp at h
  all := fun i k _ h => by simp at h
theorem Bd.snoc {n c : Int} {T M : List Int} (h : Bd n c T M) {k m f : Int} (hf : f ≤ c + m) (hn : f ≤ n) (k0 : 0 ≤ k) (k1 : k ≤ f) (m0 : 0 ≤ m) (m1 : m ≤ 4503600701112320) : Bd n (f - k) (T ++ [k]) (M ++ [m]) := by
  have hl := h.len
  have key : ∀ i, i < T.length + 1 → pre (T ++ [k]) (T.length + 1) - pre (T ++ [k]) i + (f - k) ≤ n + pre (M ++ [m]) (T.length + 1) - pre (M ++ [m]) (i + 1) := by
    intro i hi
    have e1 := pre_snoc T k
    have e2 := pre_snoc M m
    rw [← hl] at e2
    rw [e1, e2]
    by_cases g : i < T.length
    · rw [pre_snoc_le k (by omega), pre_snoc_le m (by omega)]
      have := h.cur i g; omega
    · have : i = T.length := by omega
      subst this
      rw [e2, pre_snoc_le k (Nat.le_refl _)]; omega
  refine ⟨by simp [hl], ?_, ?_, ?_, ?_⟩
  · intro x hx
    rcases List.mem_append.1 hx with g | g
    · exact h.tb x g
    · rw [List.mem_singleton.1 g]; omega
  · intro x hx
    rcases List.mem_append.1 hx with g | g
    · exact h.mb x g
    · rw [List.mem_singleton.1 g]; omega
  · intro i hi
    have e : (T ++ [k]).length = T.length + 1 := by simp
    rw [e] at hi ⊢
    exact key i hi
  · intro i j hij hj
    have e : (T ++ [k]).length = T.length + 1 := by simp
    rw [e] at hj
    by_cases g : j < T.length
    · rw [pre_snoc_le k (by omega), pre_snoc_le k (by omega), pre_snoc_le m (by omega), pre_snoc_le m (by omega)]
      exact h.all i j hij g
    · have : j = T.length := by omega
      subst this
      have := key i (by omega); omega
end Go.Proofs.Ytnmekhgilekofaa.Sat
