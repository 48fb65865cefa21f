/- For all arguments SatSums answers true and leaves them as they were; no further conditions. -/
import Derived.Test.YtcholjdbmmgakaaRows
import Derived.Test.YtcholjdbmmgakaaWorksA
import Derived.Test.YtcholjdbmmgakaaSumMath
import Derived.Test.YtcholjdbmmgakaaHead
import Derived.WalkKit
import Derived.ProofKit
import Derived.OpenShut
import Derived.ShutString
namespace Go.Proofs.Ytcholjdbmmgakaa.satSums
open Go.ChangeShapes Go.WideShapes Go.ChangeAt Go.RowKit
open Go.ChangeMaps (open_string shut_string)
set_option linter.unusedVariables false      -- a walk need not use every 'w<i>' (that an integer argument fits its kind)

theorem own : ownKnob Try.prog.godebug = none := by kernel_rfl

open Sat
set_option maxHeartbeats 1000000 in
theorem walk (a0 : Int) (a1 : Int) (a2 : Int) (w0 : (Lit.int .i64 a0).wf = true) (w1 : (Lit.int .i64 a1).wf = true) (w2 : (Lit.int .i64 a2).wf = true) (w : World) :
    Calls Try.prog 5 #[.int .i64 a0, .int .i64 a1, .int .i64 a2] w fun e w' => e = .returned (.bool true) ∧ Below w.heap.size w w' := by
  have g := Gr.refl w
  have H1 := add_comm' a0 a1; have H2 := add_assoc' a0 a1 a2
  have H3 := mul_comm' a0 a1; have H4 := mul_assoc' a0 a1 a2
  have H5 := sub_self' a0; have H6 := mul_one' a0; have H7 := mul_zero' a0; have H8 := add_zero' a0
  have H9 := sub_add a0 a1
  obtain ⟨s, hs⟩ : ∃ s, add a0 a1 = s := ⟨_, rfl⟩
  obtain ⟨p, hp⟩ : ∃ p, mul a0 a1 = p := ⟨_, rfl⟩
  obtain ⟨t, ht⟩ : ∃ t, add a1 a2 = t := ⟨_, rfl⟩
  obtain ⟨q, hq⟩ : ∃ q, mul a1 a2 = q := ⟨_, rfl⟩
  rw [hs] at H1 H2 H9; rw [hp] at H3 H4; rw [ht] at H2; rw [hq] at H4
  obtain ⟨v, hv⟩ : ∃ v, add s a2 = v := ⟨_, rfl⟩
  obtain ⟨z, hz⟩ : ∃ z, mul p a2 = z := ⟨_, rfl⟩
  rw [hv] at H2; rw [hz] at H4
  have H1' := H1.symm; have H2' := H2.symm; have H3' := H3.symm; have H4' := H4.symm
  clear H1 H2 H3 H4
  by_cases hb : s = 9007199254740991
  · have hb' : (s == 9007199254740991) = true := by rw [beq_iff_eq]; exact hb
    clear H9 hb
    go_enter Try.func5, Try.ntmps5
    go_wp2_with (first | (go_at_call 30; refine (num_any _ _).mono ?_; rintro e w' ⟨rfl, rfl⟩) | (go_at_call 32; refine (add_any _ _ _).mono ?_; rintro e w' ⟨rfl, rfl⟩) | (go_at_call 34; refine (sub_any _ _ _).mono ?_; rintro e w' ⟨rfl, rfl⟩) | (go_at_call 36; refine (mul_gr _ _ (by assumption)).mono ?_; rintro e w' ⟨rfl, _⟩) | (go_at_call 44; refine (works1_any (by assumption)).mono ?_; rintro e w' ⟨rfl, _⟩))
    go_ret
    rename_i h
    exact ⟨rfl, h.1⟩
  · have H10 := H9 hb
    have hb' : (s == 9007199254740991) = false := by rw [beq_eq_false_iff_ne]; exact hb
    clear H9 hb
    go_enter Try.func5, Try.ntmps5
    go_wp2_with (first | (go_at_call 30; refine (num_any _ _).mono ?_; rintro e w' ⟨rfl, rfl⟩) | (go_at_call 32; refine (add_any _ _ _).mono ?_; rintro e w' ⟨rfl, rfl⟩) | (go_at_call 34; refine (sub_any _ _ _).mono ?_; rintro e w' ⟨rfl, rfl⟩) | (go_at_call 36; refine (mul_gr _ _ (by assumption)).mono ?_; rintro e w' ⟨rfl, _⟩) | (go_at_call 44; refine (works1_any (by assumption)).mono ?_; rintro e w' ⟨rfl, _⟩))
    go_ret
    rename_i h
    exact ⟨rfl, h.1⟩

set_option maxRecDepth 100000 in
theorem lifted (os : Os) (started : os.Started) (H : Type) (enc : TypeId × Value → H) :
    ReturnsInHanded {} Try.checked os 5 .any (Rows.satSumsSpec.pre6 enc Try.prog Try.f5 Rows.satSumsRow.domain false) (Rows.satSumsSpec.post enc Try.prog Try.f5 false true false false) := by
  refine returnsInHanded_of_change (C := Try.checked) own started (by kernel_rfl) Try.func5
    (ChangeSpec.witness6 (enc := enc) (C := Try.checked) false ⟨#[], #[.int .i64 0, .int .i64 0, .int .i64 0], []⟩ 8 (by kernel_rfl) (by kernel_rfl) (by kernel_rfl) (by kernel_rfl)) ?_
  intro W base args ds gs before hval0 hW hcnd _
  have hval : ∀ (j : Nat) t v, Try.f5.params[j]? = some t → args[j]? = some v → Value.okWide Try.prog W .any base t v := hval0
  have hW' := hW
  obtain ⟨p, q, hA0, hV, rfl, hfz, hnd⟩ := hW
  have hA : DataW.TrodAll enc Try.prog W 0 (fun _ => true) true Try.f5.params.toList args.toList ds p := hA0
  rw [Try.params5] at hA hval
  obtain ⟨v0, vs0, d0, ds0, p0, q0, hargs, rfl, rfl, h0, r0⟩ := trodAll_cons hA
  obtain ⟨v1, vs1, d1, ds1, p1, q1, rfl, rfl, rfl, h1, r1⟩ := trodAll_cons r0
  obtain ⟨v2, vs2, d2, ds2, p2, q2, rfl, rfl, rfl, h2, r2⟩ := trodAll_cons r1
  obtain ⟨rfl, rfl, rfl⟩ := trodAll_nil r2
  obtain rfl : args = #[v0, v1, v2] := by cases args; simp_all
  obtain ⟨rfl, rfl⟩ := trodVars_none hV
  obtain ⟨a0, rfl, rfl, rfl, w0⟩ := open_int Try.underlying3 (hval 0 3 v0 rfl rfl) h0
  obtain ⟨a1, rfl, rfl, rfl, w1⟩ := open_int Try.underlying3 (hval 1 3 v1 rfl rfl) h1
  obtain ⟨a2, rfl, rfl, rfl, w2⟩ := open_int Try.underlying3 (hval 2 3 v2 rfl rfl) h2
  clear hA0 hval0
  simp only [List.append_nil] at hW'
  refine (walk a0 a1 a2 w0 w1 w2 W).mono fun e W' ⟨he, hg⟩ => ?_
  subst he
  exact ⟨_, rfl, _, _, _, [], _, [], hW', trodAll_mk1 (shut_bool Try.underlying4 _), (trodAll_cons_mk (shut_int Try.underlying3 w0) (trodAll_cons_mk (shut_int Try.underlying3 w1) (trodAll_cons_mk (shut_int Try.underlying3 w2) trodAll_mk0))), rfl, hg.frame _, fun h => by cases h⟩

theorem closed : joinedFacts Try.prog 5 Try.f5 Rows.satSumsSpec Rows.satSumsRow = true := by
  unfold joinedFacts
  rw [head_enter, head_finals, head_make]
  kernel_rfl

theorem over : Rows.satSumsRow.holds Try.pinned (OpenSpec.ofChange Rows.satSumsSpec) :=
  OpenClaim.holds_of_wide 5 Try.f5 rfl rfl rfl rfl rfl rfl rfl ⟨rfl, rfl, rfl, rfl, rfl⟩ rfl rfl rfl rfl rfl (by kernel_rfl) Try.func5 closed
    (of_decide_eq_true (by kernel_rfl)) (by unfold Func.isWrapper; first | (rw [if_pos (by decide +kernel)]; kernel_rfl) | (rw [if_neg (by decide +kernel)]; exact ⟨rfl, rfl⟩))
    (fun os started H enc _ => lifted os started H enc)

theorem proved : Rows.SatSumsSaid :=
  over
#print axioms proved
end Go.Proofs.Ytcholjdbmmgakaa.satSums
