/-
  The kernel's checks.
-/
import Derived.Test.YtkjnedjjdmfpbaaGreatDoorA5
import Derived.Test.YtkjnedjjdmfpbaaGreatDoorProg
import Derived.KernelRfl
import Derived.Test.YtkjnedjjdmfpbaaGreatDoorT1
set_option linter.unusedVariables false
set_option linter.unusedSimpArgs false
set_option linter.unusedSectionVars false
namespace Go.Vi
open Go.Proofs
set_option maxRecDepth 100000
theorem c15 : chkFn Tryz.prog 15 2 v15 r15 = true := by kernel_rfl
theorem c16 : chkFn Tryz.prog 16 2 v16 r16 = true := by kernel_rfl
theorem c18 : chkFn Tryz.prog 18 4 v18 r18 = true := by kernel_rfl
theorem c19 : chkFn Tryz.prog 19 1 v19 r19 = true := by kernel_rfl
theorem c23 : chkFn Tryz.prog 23 1 v23 r23 = true := by kernel_rfl
theorem c26 : chkFn Tryz.prog 26 2 v26 r26 = true := by kernel_rfl
theorem c40 : chkFn Tryz.prog 40 1 v40 r40 = true := by kernel_rfl
theorem c41 : chkFn Tryz.prog 41 2 v41 r41 = true := by kernel_rfl
theorem c47 : chkFn Tryz.prog 47 3 v47 r47 = true := by kernel_rfl
theorem c48 : chkFn Tryz.prog 48 0 v48 r48 = true := by kernel_rfl
theorem c49 : chkFn Tryz.prog 49 0 v49 r49 = true := by kernel_rfl
theorem c50 : chkFn Tryz.prog 50 2 v50 r50 = true := by kernel_rfl
theorem c52 : chkFn Tryz.prog 52 1 v52 r52 = true := by kernel_rfl
theorem c57 : chkFn Tryz.prog 57 2 v57 r57 = true := by kernel_rfl
theorem c61 : chkFn Tryz.prog 61 1 v61 r61 = true := by kernel_rfl
theorem c63 : chkFn Tryz.prog 63 4 v63 r63 = true := by kernel_rfl
theorem c66 : chkFn Tryz.prog 66 1 v66 r66 = true := by kernel_rfl
theorem c69 : chkFn Tryz.prog 69 1 v69 r69 = true := by kernel_rfl
theorem c73 : chkFn Tryz.prog 73 2 v73 r73 = true := by kernel_rfl
theorem c76 : chkFn Tryz.prog 76 1 v76 r76 = true := by kernel_rfl
theorem c77 : chkFn Tryz.prog 77 2 v77 r77 = true := by kernel_rfl
theorem c81 : chkFn Tryz.prog 81 1 v81 r81 = true := by kernel_rfl
theorem c82 : chkFn Tryz.prog 82 1 v82 r82 = true := by kernel_rfl
theorem c83 : chkFn Tryz.prog 83 1 v83 r83 = true := by kernel_rfl
theorem c99 : chkFn Tryz.prog 99 2 v99 r99 = true := by kernel_rfl
theorem c115 : chkFn Tryz.prog 115 2 v115 r115 = true := by kernel_rfl
theorem c120 : chkFn Tryz.prog 120 2 v120 r120 = true := by kernel_rfl
theorem c122 : chkFn Tryz.prog 122 4 v122 r122 = true := by kernel_rfl
theorem c133 : chkFn Tryz.prog 133 2 v133 r133 = true := by kernel_rfl
theorem c135 : chkFn Tryz.prog 135 2 v135 r135 = true := by kernel_rfl
theorem c136 : chkFn Tryz.prog 136 2 v136 r136 = true := by kernel_rfl
theorem c145 : chkFn Tryz.prog 145 2 v145 r145 = true := by kernel_rfl
theorem c147 : chkFn Tryz.prog 147 2 v147 r147 = true := by kernel_rfl
theorem c153 : chkFn Tryz.prog 153 2 v153 r153 = true := by kernel_rfl
theorem c161 : chkFn Tryz.prog 161 3 v161 r161 = true := by kernel_rfl
theorem c162 : chkFn Tryz.prog 162 2 v162 r162 = true := by kernel_rfl
end Go.Vi
