/- The words of the program's head, read once: what the closed facts of each row ask of them. -/
import Derived.Test.YtnmekhgilekofaaRows
import Derived.ProofKit
namespace Go.Proofs.Ytnmekhgilekofaa
def sp : Char := Char.ofNat 32
def word1 : List Char := [104, 97, 114, 110, 101, 115, 115].map Char.ofNat
def word2 : List Char := [49, 99, 56, 100, 57, 49, 97, 101, 51, 101, 51, 50, 48, 100, 97, 52, 54, 51, 50, 54, 51, 57, 54, 48, 99, 99, 49, 54, 55, 48, 99, 49, 97, 101, 51, 97, 48, 49, 49, 50, 98, 52, 97, 51, 57, 101, 99, 53, 48, 98, 53, 97, 48, 57, 48, 97, 98, 57, 57, 54, 48, 101, 56, 56].map Char.ofNat
def word3 : List Char := [99, 117, 116].map Char.ofNat
def words4 : List Char := [97, 116, 32, 115, 111, 117, 110, 100, 101, 114, 47, 115, 111, 117, 110, 100, 101, 114, 108, 97, 119, 48, 49, 46, 83, 97, 116, 75, 110, 111, 119, 110, 32, 115, 111, 117, 110, 100, 101, 114, 47, 115, 111, 117, 110, 100, 101, 114, 108, 97, 119, 49, 53, 46, 65, 109, 112, 108, 75, 110, 111, 119, 110, 32, 115, 111, 117, 110, 100, 101, 114, 47, 115, 111, 117, 110, 100, 101, 114, 108, 97, 119, 49, 51, 46, 66, 117, 99, 107, 101, 116, 66, 111, 117, 110, 100, 32, 115, 111, 117, 110, 100, 101, 114, 47, 115, 111, 117, 110, 100, 101, 114, 108, 97, 119, 49, 51, 46, 66, 117, 99, 107, 101, 116, 82, 97, 116, 101, 115, 32, 115, 111, 117, 110, 100, 101, 114, 47, 115, 111, 117, 110, 100, 101, 114, 108, 97, 119, 49, 51, 46, 66, 117, 99, 107, 101, 116, 75, 110, 111, 119, 110].map Char.ofNat
theorem word_app (b : List Char) : ∀ a : List Char, a.all (fun c => c != sp) = true → wordsSigns (a ++ sp :: b) = a :: wordsSigns b
  | [], _ => rfl
  | c :: a, h => by
    have h1 : (c != sp) = true ∧ a.all (fun c => c != sp) = true := by simpa using h
    have ih := word_app b a h1.2
    have hc : c ≠ sp := by simpa using h1.1
    show wordsSigns (c :: (a ++ sp :: b)) = _
    conv => lhs; unfold wordsSigns
    split
    · rename_i h; simp at h
    · rename_i r h
      simp only [List.cons.injEq] at h
      exact absurd h.1 hc
    · rename_i c' r _ h
      simp only [List.cons.injEq] at h
      obtain ⟨rfl, rfl⟩ := h
      rw [ih]
set_option maxRecDepth 100000 in
theorem head_string : Try.prog.initOrder = String.ofList (word1 ++ sp :: (word2 ++ sp :: (word3 ++ sp :: words4))) := by kernel_rfl
theorem head_words : ∃ r, wordsSigns Try.prog.initOrder.toList = word1 :: word2 :: word3 :: r := by
  refine ⟨wordsSigns words4, ?_⟩
  rw [head_string, String.toList_ofList, word_app _ word1 (by kernel_rfl), word_app _ word2 (by kernel_rfl), word_app _ word3 (by kernel_rfl)]
theorem behind (r : List (List Char)) : behindMainWord (word1 :: word2 :: word3 :: r) = word3 :: r := by kernel_rfl
theorem strip (r : List (List Char)) : stripLifts liftWords (word3 :: r) = ([], word3 :: r) := by kernel_rfl
theorem head_door : Try.prog.doorFits [] = true := by kernel_rfl
theorem head_later : Try.prog.laysLater = false := by kernel_rfl
theorem head_reflect : Try.prog.bearsReflect = false := by kernel_rfl
theorem enter_of (P : Program) (r : List (List Char)) (h : wordsSigns P.initOrder.toList = word1 :: word2 :: word3 :: r) (h1 : P.doorFits [] = true) (h2 : P.laysLater = false) (h3 : P.bearsReflect = false) : P.mayEnter = true := by
  unfold Program.mayEnter
  rw [h, behind]
  dsimp only
  rw [strip]
  dsimp only
  rw [h1, h2, h3]
  kernel_rfl
theorem lifts_of (P : Program) (r : List (List Char)) (h : wordsSigns P.initOrder.toList = word1 :: word2 :: word3 :: r) : P.headLifts = [] := by
  unfold Program.headLifts
  rw [h, behind, strip]
  kernel_rfl
theorem finals_of (P : Program) (r : List (List Char)) (h : wordsSigns P.initOrder.toList = word1 :: word2 :: word3 :: r) : P.liftsFinal = false := by
  unfold Program.liftsFinal
  rw [h, behind, lifts_of P r h]
  kernel_rfl
theorem make_of (P : Program) (r : List (List Char)) (h : wordsSigns P.initOrder.toList = word1 :: word2 :: word3 :: r) : P.make = some .cut := by
  unfold Program.make
  rw [h, behind, lifts_of P r h]
  kernel_rfl
theorem head_enter : Try.prog.mayEnter = true := by obtain ⟨r, h⟩ := head_words; exact enter_of _ r h head_door head_later head_reflect
theorem head_finals : Try.prog.liftsFinal = false := by obtain ⟨r, h⟩ := head_words; exact finals_of _ r h
theorem head_make : Try.prog.make = some .cut := by obtain ⟨r, h⟩ := head_words; exact make_of _ r h
end Go.Proofs.Ytnmekhgilekofaa
