/- For all arguments BucketBound answers true and leaves what it was given as it was; no further conditions. -/
import Derived.Test.YtnmekhgilekofaaBucketBoundW
import Derived.Test.YtnmekhgilekofaaHead
import Derived.Test.YtnmekhgilekofaaOpen
import Derived.ShutString
namespace Go.Proofs.Ytnmekhgilekofaa.bucketBound
open Go.ChangeShapes Go.WideShapes Go.ChangeAt Go.RowKit
open Go.ChangeMaps (open_string shut_string)
set_option linter.unusedVariables false

theorem own : ownKnob Try.prog.godebug = none := by kernel_rfl
theorem laidOut : laidOutB Try.prog = true := by kernel_rfl
theorem tInt : IntT Try.prog 3 := IntT.int Try.underlying3 (by kernel_rfl)
theorem tA2 : IntT Try.prog 25 := IntT.array Try.underlying25 (by kernel_rfl) (of_decide_eq_true (by kernel_rfl)) tInt
theorem tA32 : IntT Try.prog 45 := IntT.array Try.underlying45 (by kernel_rfl) (of_decide_eq_true (by kernel_rfl)) tA2
theorem tElem : IntT Try.prog 55 := IntT.struct Try.underlying55 (by kernel_rfl) (by kernel_rfl) (fun i f hf => by
  match i, hf with
  | 0, hf => obtain rfl := Option.some.inj hf; exact tInt
  | 1, hf => obtain rfl := Option.some.inj hf; exact tInt
  | 2, hf => obtain rfl := Option.some.inj hf; exact tInt
  | (i + 3), hf => exact absurd hf (by simp))

set_option maxRecDepth 100000 in
theorem lifted (os : Os) (started : os.Started) (H : Type) (enc : TypeId × Value → H) :
    ReturnsInHanded {} Try.checked os 5 .any (Rows.bucketBoundSpec.pre6 enc Try.prog Try.f5 Rows.bucketBoundRow.domain false) (Rows.bucketBoundSpec.post enc Try.prog Try.f5 false true false false) := by
  refine returnsInHanded_of_change (C := Try.checked) own started (by kernel_rfl) Try.func5
    (ChangeSpec.witness6 (enc := enc) (C := Try.checked) false ⟨#[], #[.agg #[.int .i64 0, .int .i64 0, .int .i64 0, .int .i64 0, .int .i64 0, .int .i64 0], .int .i64 0, .slice none 0 0], []⟩ 8 (by kernel_rfl) (by kernel_rfl) (by kernel_rfl) (by kernel_rfl)) ?_
  intro W base args ds gs before hval0 hW hcnd _
  have hW' := hW
  have hval : ∀ (j : Nat) t v, Try.f5.params[j]? = some t → args[j]? = some v → Value.okWide Try.prog W .any base t v := hval0
  obtain ⟨p, q, hA0, hV, rfl, hfz, hnd⟩ := hW
  have hA : DataW.TrodAll enc Try.prog W 0 (fun _ => true) true Try.f5.params.toList args.toList ds p := hA0
  rw [Try.params5] at hA hval
  obtain ⟨v0, vs0, d0, ds0, p0, q0, hargs, rfl, rfl, h0, r0⟩ := trodAll_cons hA
  obtain ⟨v1, vs1, d1, ds1, p1, q1, rfl, rfl, rfl, h1, r1⟩ := trodAll_cons r0
  obtain ⟨v2, vs2, d2, ds2, p2, q2, rfl, rfl, rfl, h2, r2⟩ := trodAll_cons r1
  obtain ⟨rfl, rfl, rfl⟩ := trodAll_nil r2
  obtain rfl : args = #[v0, v1, v2] := by cases args; simp_all
  obtain ⟨rfl, rfl⟩ := trodVars_none hV
  have k0 := h0
  have lt0 : ∀ x ∈ p0, x.block < W.heap.size := by obtain ⟨m, hm⟩ := k0; exact DataW.trod_lt m _ _ _ hm
  obtain ⟨z0, rfl, l0, w0⟩ := open_arr_ints Try.underlying45 tA32 (hval 0 45 v0 rfl rfl) h0
  obtain ⟨x0_0, x0_1, x0_2, x0_3, x0_4, x0_5, rfl⟩ := list6 (l0.trans (show Try.prog.cellsOf 45 = 6 by kernel_rfl))
  have k1 := h1
  have lt1 : ∀ x ∈ p1, x.block < W.heap.size := by obtain ⟨m, hm⟩ := k1; exact DataW.trod_lt m _ _ _ hm
  obtain ⟨a1, rfl, _, _, w1⟩ := open_int Try.underlying3 (hval 1 3 v1 rfl rfl) h1
  have k2 := h2
  have lt2 : ∀ x ∈ p2, x.block < W.heap.size := by obtain ⟨m, hm⟩ := k2; exact DataW.trod_lt m _ _ _ hm
  obtain ⟨a2, len2, cap2, rfl⟩ := okWide_slice Try.underlying46 (hval 2 46 v2 rfl rfl)
  obtain ⟨z2, row2, ln2, w2⟩ := open_rows Try.underlying46 tElem (c := 3) (by kernel_rfl) (by omega) h2
  clear hA0 hval0
  refine (bucketBound_walk W x0_0 x0_1 x0_2 x0_3 x0_4 x0_5 (okI_of (w0 x0_0 (by simp))) (okI_of (w0 x0_1 (by simp))) (okI_of (w0 x0_2 (by simp))) (okI_of (w0 x0_3 (by simp))) (okI_of (w0 x0_4 (by simp))) (okI_of (w0 x0_5 (by simp))) a1 (okI_of w1) a2 len2 cap2 z2 row2 ln2 w2).mono fun e W' ⟨he, bel⟩ => ?_
  subst he
  exact ⟨_, rfl, _, _, _, [], _, [], hW', trodAll_mk1 (shut_bool Try.underlying4 _), (trodAll_cons_mk (Below.trod laidOut (by kernel_rfl) (of_decide_eq_true (by kernel_rfl)) k0 bel lt0) (trodAll_cons_mk (Below.trod laidOut (by kernel_rfl) (of_decide_eq_true (by kernel_rfl)) k1 bel lt1) (trodAll_cons_mk (Below.trod laidOut (by kernel_rfl) (of_decide_eq_true (by kernel_rfl)) k2 bel lt2) trodAll_mk0))), rfl, bel.frame _, fun h => by cases h⟩

theorem closed : joinedFacts Try.prog 5 Try.f5 Rows.bucketBoundSpec Rows.bucketBoundRow = true := by
  unfold joinedFacts
  rw [head_enter, head_finals, head_make]
  kernel_rfl

theorem over : Rows.bucketBoundRow.holds Try.pinned (OpenSpec.ofChange Rows.bucketBoundSpec) :=
  OpenClaim.holds_of_wide 5 Try.f5 rfl rfl rfl rfl rfl rfl rfl ⟨rfl, rfl, rfl, rfl, rfl⟩ rfl rfl rfl rfl rfl (by kernel_rfl) Try.func5 closed
    (of_decide_eq_true (by kernel_rfl)) (by unfold Func.isWrapper; first | (rw [if_pos (by decide +kernel)]; kernel_rfl) | (rw [if_neg (by decide +kernel)]; exact ⟨rfl, rfl⟩))
    (fun os started H enc _ => lifted os started H enc)

theorem proved : Rows.BucketBoundSaid := over
#print axioms proved
end Go.Proofs.Ytnmekhgilekofaa.bucketBound
