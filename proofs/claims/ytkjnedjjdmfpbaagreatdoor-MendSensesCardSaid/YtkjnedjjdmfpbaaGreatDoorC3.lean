/-
  The kernel's checks.
-/
import Derived.Test.YtkjnedjjdmfpbaaGreatDoorA5
import Derived.Test.YtkjnedjjdmfpbaaGreatDoorProg
import Derived.KernelRfl
import Derived.Test.YtkjnedjjdmfpbaaGreatDoorT1
import Derived.Test.YtkjnedjjdmfpbaaGreatDoorT2
import Derived.Test.YtkjnedjjdmfpbaaGreatDoorC1
import Derived.Test.YtkjnedjjdmfpbaaGreatDoorC2
set_option linter.unusedVariables false
set_option linter.unusedSimpArgs false
set_option linter.unusedSectionVars false
namespace Go.Vi
open Go.Proofs
set_option maxRecDepth 100000
theorem c11 : chkFn Tryz.prog 11 4 v11 r11 = true := by kernel_rfl
theorem c44 : chkFn Tryz.prog 44 3 v44 r44 = true := by kernel_rfl
theorem c8 : chkFn Tryz.prog 8 4 v8 r8 = true := by kernel_rfl
theorem c19 : chkFn Tryz.prog 19 1 v19 r19 = true := by kernel_rfl
theorem c122 : chkFn Tryz.prog 122 4 v122 r122 = true := by kernel_rfl
theorem c31 : chkFn Tryz.prog 31 1 v31 r31 = true := by kernel_rfl
theorem c20 : chkFn Tryz.prog 20 1 v20 r20 = true := by kernel_rfl
theorem c89 : chkFn Tryz.prog 89 2 v89 r89 = true := by kernel_rfl
theorem c47 : chkFn Tryz.prog 47 3 v47 r47 = true := by kernel_rfl
theorem c29 : chkFn Tryz.prog 29 4 v29 r29 = true := by kernel_rfl
theorem c71 : chkFn Tryz.prog 71 1 v71 r71 = true := by kernel_rfl
theorem c84 : chkFn Tryz.prog 84 3 v84 r84 = true := by kernel_rfl
theorem c106 : chkFn Tryz.prog 106 2 v106 r106 = true := by kernel_rfl
theorem c74 : chkFn Tryz.prog 74 2 v74 r74 = true := by kernel_rfl
theorem c120 : chkFn Tryz.prog 120 2 v120 r120 = true := by kernel_rfl
theorem c72 : chkFn Tryz.prog 72 1 v72 r72 = true := by kernel_rfl
end Go.Vi
namespace Go.Vi
open Go.Proofs
set_option maxRecDepth 100000
theorem c5 : chkFn Tryz.prog 5 4 v5 r5 = true := by kernel_rfl
theorem c6 : chkFn Tryz.prog 6 5 v6 r6 = true := by kernel_rfl
theorem c24 : chkFn Tryz.prog 24 3 v24 r24 = true := by kernel_rfl
theorem c9 : chkFn Tryz.prog 9 2 v9 r9 = true := by kernel_rfl
theorem c49 : chkFn Tryz.prog 49 0 v49 r49 = true := by kernel_rfl
theorem c41 : chkFn Tryz.prog 41 2 v41 r41 = true := by kernel_rfl
theorem c61 : chkFn Tryz.prog 61 1 v61 r61 = true := by kernel_rfl
theorem c60 : chkFn Tryz.prog 60 1 v60 r60 = true := by kernel_rfl
theorem c16 : chkFn Tryz.prog 16 2 v16 r16 = true := by kernel_rfl
theorem c97 : chkFn Tryz.prog 97 1 v97 r97 = true := by kernel_rfl
theorem c30 : chkFn Tryz.prog 30 4 v30 r30 = true := by kernel_rfl
theorem c91 : chkFn Tryz.prog 91 1 v91 r91 = true := by kernel_rfl
theorem c144 : chkFn Tryz.prog 144 3 v144 r144 = true := by kernel_rfl
theorem c92 : chkFn Tryz.prog 92 2 v92 r92 = true := by kernel_rfl
theorem c98 : chkFn Tryz.prog 98 2 v98 r98 = true := by kernel_rfl
theorem c76 : chkFn Tryz.prog 76 1 v76 r76 = true := by kernel_rfl
end Go.Vi
namespace Go.Vi
open Go.Proofs
set_option maxRecDepth 100000
theorem c63 : chkFn Tryz.prog 63 4 v63 r63 = true := by kernel_rfl
theorem c34 : chkFn Tryz.prog 34 1 v34 r34 = true := by kernel_rfl
theorem c59 : chkFn Tryz.prog 59 4 v59 r59 = true := by kernel_rfl
theorem c33 : chkFn Tryz.prog 33 2 v33 r33 = true := by kernel_rfl
theorem c81 : chkFn Tryz.prog 81 1 v81 r81 = true := by kernel_rfl
theorem c37 : chkFn Tryz.prog 37 1 v37 r37 = true := by kernel_rfl
theorem c32 : chkFn Tryz.prog 32 1 v32 r32 = true := by kernel_rfl
theorem c46 : chkFn Tryz.prog 46 2 v46 r46 = true := by kernel_rfl
theorem c48 : chkFn Tryz.prog 48 0 v48 r48 = true := by kernel_rfl
theorem c132 : chkFn Tryz.prog 132 2 v132 r132 = true := by kernel_rfl
theorem c52 : chkFn Tryz.prog 52 1 v52 r52 = true := by kernel_rfl
theorem c22 : chkFn Tryz.prog 22 2 v22 r22 = true := by kernel_rfl
theorem c40 : chkFn Tryz.prog 40 1 v40 r40 = true := by kernel_rfl
theorem c99 : chkFn Tryz.prog 99 2 v99 r99 = true := by kernel_rfl
theorem c102 : chkFn Tryz.prog 102 2 v102 r102 = true := by kernel_rfl
theorem c136 : chkFn Tryz.prog 136 2 v136 r136 = true := by kernel_rfl
theorem c86 : chkFn Tryz.prog 86 1 v86 r86 = true := by kernel_rfl
end Go.Vi

