/- For all arguments PaceBound answers true and leaves what it was given as it was; no further conditions. -/
import Derived.Test.YtcholjdbmmgakaaPaceBoundW
import Derived.Test.YtcholjdbmmgakaaHead
import Derived.Test.YtcholjdbmmgakaaOpen
import Derived.ShutString
namespace Go.Proofs.Ytcholjdbmmgakaa.paceBound
open Go.ChangeShapes Go.WideShapes Go.ChangeAt Go.RowKit
open Go.ChangeMaps (open_string shut_string)
set_option linter.unusedVariables false

theorem own : ownKnob Try.prog.godebug = none := by kernel_rfl
theorem laidOut : laidOutB Try.prog = true := by kernel_rfl
theorem tInt : IntT Try.prog 3 := IntT.int Try.underlying3 (by kernel_rfl)
theorem tElem : IntT Try.prog 116 := IntT.struct Try.underlying116 (by kernel_rfl) (by kernel_rfl) (fun i f hf => by
  match i, hf with
  | 0, hf => obtain rfl := Option.some.inj hf; exact tInt
  | 1, hf => obtain rfl := Option.some.inj hf; exact tInt
  | 2, hf => obtain rfl := Option.some.inj hf; exact tInt
  | 3, hf => obtain rfl := Option.some.inj hf; exact tInt
  | (i + 4), hf => exact absurd hf (by simp))

set_option maxRecDepth 100000 in
theorem lifted (os : Os) (started : os.Started) (H : Type) (enc : TypeId × Value → H) :
    ReturnsInHanded {} Try.checked os 23 .any (Rows.paceBoundSpec.pre6 enc Try.prog Try.f23 Rows.paceBoundRow.domain false) (Rows.paceBoundSpec.post enc Try.prog Try.f23 false true false false) := by
  refine returnsInHanded_of_change (C := Try.checked) own started (by kernel_rfl) Try.func23
    (ChangeSpec.witness6 (enc := enc) (C := Try.checked) false ⟨#[], #[.int .i64 0, .slice none 0 0], []⟩ 8 (by kernel_rfl) (by kernel_rfl) (by kernel_rfl) (by kernel_rfl)) ?_
  intro W base args ds gs before hval0 hW hcnd _
  have hW' := hW
  have hval : ∀ (j : Nat) t v, Try.f23.params[j]? = some t → args[j]? = some v → Value.okWide Try.prog W .any base t v := hval0
  obtain ⟨p, q, hA0, hV, rfl, hfz, hnd⟩ := hW
  have hA : DataW.TrodAll enc Try.prog W 0 (fun _ => true) true Try.f23.params.toList args.toList ds p := hA0
  rw [Try.params23] at hA hval
  obtain ⟨v0, vs0, d0, ds0, p0, q0, hargs, rfl, rfl, h0, r0⟩ := trodAll_cons hA
  obtain ⟨v1, vs1, d1, ds1, p1, q1, rfl, rfl, rfl, h1, r1⟩ := trodAll_cons r0
  obtain ⟨rfl, rfl, rfl⟩ := trodAll_nil r1
  obtain rfl : args = #[v0, v1] := by cases args; simp_all
  obtain ⟨rfl, rfl⟩ := trodVars_none hV
  have k0 := h0
  have lt0 : ∀ x ∈ p0, x.block < W.heap.size := by obtain ⟨m, hm⟩ := k0; exact DataW.trod_lt m _ _ _ hm
  obtain ⟨a0, rfl, _, _, w0⟩ := open_int Try.underlying3 (hval 0 3 v0 rfl rfl) h0
  have k1 := h1
  have lt1 : ∀ x ∈ p1, x.block < W.heap.size := by obtain ⟨m, hm⟩ := k1; exact DataW.trod_lt m _ _ _ hm
  obtain ⟨a1, len1, cap1, rfl⟩ := okWide_slice Try.underlying106 (hval 1 106 v1 rfl rfl)
  obtain ⟨z1, row1, ln1, w1⟩ := open_rows Try.underlying106 tElem (c := 4) (by kernel_rfl) (by omega) h1
  clear hA0 hval0
  refine (paceBound_walk W a0 (okI_of w0) a1 len1 cap1 z1 row1 (Nat.le_trans ln1.1 ln1.2) w1).mono fun e W' ⟨he, bel⟩ => ?_
  subst he
  exact ⟨_, rfl, _, _, _, [], _, [], hW', trodAll_mk1 (shut_bool Try.underlying4 _), (trodAll_cons_mk (Below.trod laidOut (by kernel_rfl) (of_decide_eq_true (by kernel_rfl)) k0 bel lt0) (trodAll_cons_mk (Below.trod laidOut (by kernel_rfl) (of_decide_eq_true (by kernel_rfl)) k1 bel lt1) trodAll_mk0)), rfl, bel.frame _, fun h => by cases h⟩

theorem closed : joinedFacts Try.prog 23 Try.f23 Rows.paceBoundSpec Rows.paceBoundRow = true := by
  unfold joinedFacts
  rw [head_enter, head_finals, head_make]
  kernel_rfl

theorem over : Rows.paceBoundRow.holds Try.pinned (OpenSpec.ofChange Rows.paceBoundSpec) :=
  OpenClaim.holds_of_wide 23 Try.f23 rfl rfl rfl rfl rfl rfl rfl ⟨rfl, rfl, rfl, rfl, rfl⟩ rfl rfl rfl rfl rfl (by kernel_rfl) Try.func23 closed
    (of_decide_eq_true (by kernel_rfl)) (by unfold Func.isWrapper; first | (rw [if_pos (by decide +kernel)]; kernel_rfl) | (rw [if_neg (by decide +kernel)]; exact ⟨rfl, rfl⟩))
    (fun os started H enc _ => lifted os started H enc)

theorem proved : Rows.PaceBoundSaid := over
#print axioms proved
end Go.Proofs.Ytcholjdbmmgakaa.paceBound
