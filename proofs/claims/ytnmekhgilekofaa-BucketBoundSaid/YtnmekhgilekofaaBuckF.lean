/- Closed facts of layer 13's works. -/
import Derived.Test.YtnmekhgilekofaaBuckMath
namespace Go.Proofs.Ytnmekhgilekofaa
open Sat
theorem w13_n0 : BS.newE 1000 0 = 0 := by decide +kernel
theorem w13_n1 : BS.new 1000 0 = ⟨1000, 1000, 0, 0, 0, 0⟩ := by decide +kernel
theorem w13_t0 : BS.takeE ⟨1000, 1000, 0, 0, 0, 0⟩ 1000 = 0 := by decide +kernel
theorem w13_t1 : BS.taken ⟨1000, 1000, 0, 0, 0, 0⟩ 1000 = ⟨1000, 0, 0, 0, 0, 0⟩ := by decide +kernel
theorem w13_f0 : BS.fillE ⟨1000, 0, 0, 0, 0, 0⟩ 10 3 7 = 0 := by decide +kernel
theorem w13_f1 : BS.filled ⟨1000, 0, 0, 0, 0, 0⟩ 10 3 7 = ⟨1000, 4, 2, 10, 3, 7⟩ := by decide +kernel
theorem w13_g0 : BS.when ⟨1000, 4, 2, 10, 3, 7⟩ 5 3 7 = 12 := by decide +kernel
theorem w13_g1 : BS.when ⟨1000, 4, 2, 10, 3, 7⟩ 4 3 7 = 10 := by decide +kernel
theorem w13_f2 : BS.fillE ⟨1000, 4, 2, 10, 3, 7⟩ 12 3 7 = 0 := by decide +kernel
theorem w13_f3 : BS.filled ⟨1000, 4, 2, 10, 3, 7⟩ 12 3 7 = ⟨1000, 5, 1, 12, 3, 7⟩ := by decide +kernel
theorem w13_f4 : BS.fillE ⟨1000, 5, 1, 12, 3, 7⟩ 11 3 7 = 210 := by decide +kernel
theorem w13_f5 : BS.filled ⟨1000, 5, 1, 12, 3, 7⟩ 11 3 7 = ⟨1000, 5, 1, 12, 3, 7⟩ := by decide +kernel
theorem w13_f6 : BS.fillE ⟨1000, 5, 1, 12, 3, 7⟩ 3000 3 7 = 0 := by decide +kernel
theorem w13_f7 : BS.filled ⟨1000, 5, 1, 12, 3, 7⟩ 3000 3 7 = ⟨1000, 1000, 0, 3000, 3, 7⟩ := by decide +kernel
theorem w13_t2 : BS.takeE ⟨1000, 1000, 0, 3000, 3, 7⟩ 1001 = 5 := by decide +kernel
theorem w13_t3 : BS.taken ⟨1000, 1000, 0, 3000, 3, 7⟩ 1001 = ⟨1000, 1000, 0, 3000, 3, 7⟩ := by decide +kernel
theorem w13_g2 : BS.when ⟨1000, 1000, 0, 3000, 3, 7⟩ 1001 3 7 = -1 := by decide +kernel
theorem w13_g3 : BS.when ⟨1000, 1000, 0, 3000, 3, 7⟩ 1000 3 7 = 3000 := by decide +kernel
end Go.Proofs.Ytnmekhgilekofaa
