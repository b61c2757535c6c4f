/-
  The kernel's checks.
-/
import Derived.Test.YtkjnedjjdmfpbaaGreatDoorA5
import Derived.Test.YtkjnedjjdmfpbaaGreatDoorProg
import Derived.KernelRfl
import Derived.Test.YtkjnedjjdmfpbaaGreatDoorT1
import Derived.Test.YtkjnedjjdmfpbaaGreatDoorT2
set_option linter.unusedVariables false
set_option linter.unusedSimpArgs false
set_option linter.unusedSectionVars false
namespace Go.Vi
open Go.Proofs
set_option maxRecDepth 100000
theorem c14 : chkFn Tryz.prog 14 0 v14 r14 = true := by kernel_rfl
theorem c57 : chkFn Tryz.prog 57 2 v57 r57 = true := by kernel_rfl
theorem c58 : chkFn Tryz.prog 58 1 v58 r58 = true := by kernel_rfl
theorem c27 : chkFn Tryz.prog 27 1 v27 r27 = true := by kernel_rfl
theorem c116 : chkFn Tryz.prog 116 2 v116 r116 = true := by kernel_rfl
theorem c45 : chkFn Tryz.prog 45 2 v45 r45 = true := by kernel_rfl
theorem c26 : chkFn Tryz.prog 26 2 v26 r26 = true := by kernel_rfl
theorem c38 : chkFn Tryz.prog 38 4 v38 r38 = true := by kernel_rfl
theorem c134 : chkFn Tryz.prog 134 2 v134 r134 = true := by kernel_rfl
theorem c93 : chkFn Tryz.prog 93 3 v93 r93 = true := by kernel_rfl
theorem c82 : chkFn Tryz.prog 82 1 v82 r82 = true := by kernel_rfl
theorem c105 : chkFn Tryz.prog 105 1 v105 r105 = true := by kernel_rfl
theorem c73 : chkFn Tryz.prog 73 2 v73 r73 = true := by kernel_rfl
theorem c101 : chkFn Tryz.prog 101 2 v101 r101 = true := by kernel_rfl
theorem c66 : chkFn Tryz.prog 66 1 v66 r66 = true := by kernel_rfl
theorem c87 : chkFn Tryz.prog 87 2 v87 r87 = true := by kernel_rfl
end Go.Vi
namespace Go.Vi
open Go.Proofs
set_option maxRecDepth 100000
theorem c12 : chkFn Tryz.prog 12 4 v12 r12 = true := by kernel_rfl
theorem c53 : chkFn Tryz.prog 53 3 v53 r53 = true := by kernel_rfl
theorem c15 : chkFn Tryz.prog 15 2 v15 r15 = true := by kernel_rfl
theorem c43 : chkFn Tryz.prog 43 2 v43 r43 = true := by kernel_rfl
theorem c62 : chkFn Tryz.prog 62 3 v62 r62 = true := by kernel_rfl
theorem c18 : chkFn Tryz.prog 18 4 v18 r18 = true := by kernel_rfl
theorem c54 : chkFn Tryz.prog 54 2 v54 r54 = true := by kernel_rfl
theorem c114 : chkFn Tryz.prog 114 2 v114 r114 = true := by kernel_rfl
theorem c88 : chkFn Tryz.prog 88 3 v88 r88 = true := by kernel_rfl
theorem c147 : chkFn Tryz.prog 147 2 v147 r147 = true := by kernel_rfl
theorem c28 : chkFn Tryz.prog 28 3 v28 r28 = true := by kernel_rfl
theorem c143 : chkFn Tryz.prog 143 2 v143 r143 = true := by kernel_rfl
theorem c85 : chkFn Tryz.prog 85 2 v85 r85 = true := by kernel_rfl
theorem c145 : chkFn Tryz.prog 145 2 v145 r145 = true := by kernel_rfl
theorem c113 : chkFn Tryz.prog 113 1 v113 r113 = true := by kernel_rfl
end Go.Vi
namespace Go.Vi
open Go.Proofs
set_option maxRecDepth 100000
theorem c7 : chkFn Tryz.prog 7 3 v7 r7 = true := by kernel_rfl
theorem c39 : chkFn Tryz.prog 39 4 v39 r39 = true := by kernel_rfl
theorem c17 : chkFn Tryz.prog 17 0 v17 r17 = true := by kernel_rfl
theorem c112 : chkFn Tryz.prog 112 3 v112 r112 = true := by kernel_rfl
theorem c146 : chkFn Tryz.prog 146 2 v146 r146 = true := by kernel_rfl
theorem c80 : chkFn Tryz.prog 80 2 v80 r80 = true := by kernel_rfl
theorem c25 : chkFn Tryz.prog 25 2 v25 r25 = true := by kernel_rfl
theorem c50 : chkFn Tryz.prog 50 2 v50 r50 = true := by kernel_rfl
theorem c137 : chkFn Tryz.prog 137 2 v137 r137 = true := by kernel_rfl
theorem c133 : chkFn Tryz.prog 133 2 v133 r133 = true := by kernel_rfl
theorem c162 : chkFn Tryz.prog 162 2 v162 r162 = true := by kernel_rfl
theorem c83 : chkFn Tryz.prog 83 1 v83 r83 = true := by kernel_rfl
theorem c110 : chkFn Tryz.prog 110 2 v110 r110 = true := by kernel_rfl
theorem c77 : chkFn Tryz.prog 77 2 v77 r77 = true := by kernel_rfl
theorem c135 : chkFn Tryz.prog 135 2 v135 r135 = true := by kernel_rfl
theorem c36 : chkFn Tryz.prog 36 1 v36 r36 = true := by kernel_rfl
end Go.Vi
