/-
  The kernel's checks.
-/
import Derived.Test.YtkjnedjjdmfpbaaGreatDoorA5
import Derived.Test.YtkjnedjjdmfpbaaGreatDoorProg
import Derived.KernelRfl
import Derived.Test.YtkjnedjjdmfpbaaGreatDoorT1
set_option linter.unusedVariables false
set_option linter.unusedSimpArgs false
set_option linter.unusedSectionVars false
namespace Go.Vi
open Go.Proofs
set_option maxRecDepth 100000
theorem c22 : chkFn Tryz.prog 22 2 v22 r22 = true := by kernel_rfl
theorem c25 : chkFn Tryz.prog 25 2 v25 r25 = true := by kernel_rfl
theorem c27 : chkFn Tryz.prog 27 1 v27 r27 = true := by kernel_rfl
theorem c28 : chkFn Tryz.prog 28 3 v28 r28 = true := by kernel_rfl
theorem c30 : chkFn Tryz.prog 30 4 v30 r30 = true := by kernel_rfl
theorem c31 : chkFn Tryz.prog 31 1 v31 r31 = true := by kernel_rfl
theorem c32 : chkFn Tryz.prog 32 1 v32 r32 = true := by kernel_rfl
theorem c33 : chkFn Tryz.prog 33 2 v33 r33 = true := by kernel_rfl
theorem c34 : chkFn Tryz.prog 34 1 v34 r34 = true := by kernel_rfl
theorem c36 : chkFn Tryz.prog 36 1 v36 r36 = true := by kernel_rfl
theorem c37 : chkFn Tryz.prog 37 1 v37 r37 = true := by kernel_rfl
theorem c46 : chkFn Tryz.prog 46 2 v46 r46 = true := by kernel_rfl
theorem c53 : chkFn Tryz.prog 53 3 v53 r53 = true := by kernel_rfl
theorem c55 : chkFn Tryz.prog 55 2 v55 r55 = true := by kernel_rfl
theorem c75 : chkFn Tryz.prog 75 1 v75 r75 = true := by kernel_rfl
theorem c80 : chkFn Tryz.prog 80 2 v80 r80 = true := by kernel_rfl
theorem c84 : chkFn Tryz.prog 84 3 v84 r84 = true := by kernel_rfl
theorem c85 : chkFn Tryz.prog 85 2 v85 r85 = true := by kernel_rfl
theorem c86 : chkFn Tryz.prog 86 1 v86 r86 = true := by kernel_rfl
theorem c88 : chkFn Tryz.prog 88 3 v88 r88 = true := by kernel_rfl
theorem c89 : chkFn Tryz.prog 89 2 v89 r89 = true := by kernel_rfl
theorem c93 : chkFn Tryz.prog 93 3 v93 r93 = true := by kernel_rfl
theorem c94 : chkFn Tryz.prog 94 3 v94 r94 = true := by kernel_rfl
theorem c97 : chkFn Tryz.prog 97 1 v97 r97 = true := by kernel_rfl
theorem c100 : chkFn Tryz.prog 100 2 v100 r100 = true := by kernel_rfl
theorem c101 : chkFn Tryz.prog 101 2 v101 r101 = true := by kernel_rfl
theorem c102 : chkFn Tryz.prog 102 2 v102 r102 = true := by kernel_rfl
theorem c106 : chkFn Tryz.prog 106 2 v106 r106 = true := by kernel_rfl
theorem c109 : chkFn Tryz.prog 109 2 v109 r109 = true := by kernel_rfl
theorem c112 : chkFn Tryz.prog 112 3 v112 r112 = true := by kernel_rfl
theorem c114 : chkFn Tryz.prog 114 2 v114 r114 = true := by kernel_rfl
theorem c118 : chkFn Tryz.prog 118 2 v118 r118 = true := by kernel_rfl
theorem c121 : chkFn Tryz.prog 121 2 v121 r121 = true := by kernel_rfl
theorem c132 : chkFn Tryz.prog 132 2 v132 r132 = true := by kernel_rfl
theorem c143 : chkFn Tryz.prog 143 2 v143 r143 = true := by kernel_rfl
theorem c146 : chkFn Tryz.prog 146 2 v146 r146 = true := by kernel_rfl
end Go.Vi
