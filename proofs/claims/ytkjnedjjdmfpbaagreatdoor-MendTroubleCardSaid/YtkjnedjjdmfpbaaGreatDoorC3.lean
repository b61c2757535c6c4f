/-
  The kernel's checks.
-/
import Derived.Test.YtkjnedjjdmfpbaaGreatDoorA5
import Derived.Test.YtkjnedjjdmfpbaaGreatDoorProg
import Derived.KernelRfl
import Derived.Test.YtkjnedjjdmfpbaaGreatDoorT1
set_option linter.unusedVariables false
set_option linter.unusedSimpArgs false
set_option linter.unusedSectionVars false
namespace Go.Vi
open Go.Proofs
set_option maxRecDepth 100000
theorem c17 : chkFn Tryz.prog 17 0 v17 r17 = true := by kernel_rfl
theorem c20 : chkFn Tryz.prog 20 1 v20 r20 = true := by kernel_rfl
theorem c21 : chkFn Tryz.prog 21 1 v21 r21 = true := by kernel_rfl
theorem c29 : chkFn Tryz.prog 29 4 v29 r29 = true := by kernel_rfl
theorem c35 : chkFn Tryz.prog 35 2 v35 r35 = true := by kernel_rfl
theorem c38 : chkFn Tryz.prog 38 4 v38 r38 = true := by kernel_rfl
theorem c39 : chkFn Tryz.prog 39 4 v39 r39 = true := by kernel_rfl
theorem c51 : chkFn Tryz.prog 51 2 v51 r51 = true := by kernel_rfl
theorem c54 : chkFn Tryz.prog 54 2 v54 r54 = true := by kernel_rfl
theorem c56 : chkFn Tryz.prog 56 3 v56 r56 = true := by kernel_rfl
theorem c58 : chkFn Tryz.prog 58 1 v58 r58 = true := by kernel_rfl
theorem c59 : chkFn Tryz.prog 59 4 v59 r59 = true := by kernel_rfl
theorem c60 : chkFn Tryz.prog 60 1 v60 r60 = true := by kernel_rfl
theorem c62 : chkFn Tryz.prog 62 3 v62 r62 = true := by kernel_rfl
theorem c68 : chkFn Tryz.prog 68 3 v68 r68 = true := by kernel_rfl
theorem c71 : chkFn Tryz.prog 71 1 v71 r71 = true := by kernel_rfl
theorem c72 : chkFn Tryz.prog 72 1 v72 r72 = true := by kernel_rfl
theorem c74 : chkFn Tryz.prog 74 2 v74 r74 = true := by kernel_rfl
theorem c78 : chkFn Tryz.prog 78 1 v78 r78 = true := by kernel_rfl
theorem c79 : chkFn Tryz.prog 79 3 v79 r79 = true := by kernel_rfl
theorem c87 : chkFn Tryz.prog 87 2 v87 r87 = true := by kernel_rfl
theorem c90 : chkFn Tryz.prog 90 2 v90 r90 = true := by kernel_rfl
theorem c91 : chkFn Tryz.prog 91 1 v91 r91 = true := by kernel_rfl
theorem c92 : chkFn Tryz.prog 92 2 v92 r92 = true := by kernel_rfl
theorem c98 : chkFn Tryz.prog 98 2 v98 r98 = true := by kernel_rfl
theorem c103 : chkFn Tryz.prog 103 2 v103 r103 = true := by kernel_rfl
theorem c104 : chkFn Tryz.prog 104 2 v104 r104 = true := by kernel_rfl
theorem c105 : chkFn Tryz.prog 105 1 v105 r105 = true := by kernel_rfl
theorem c110 : chkFn Tryz.prog 110 2 v110 r110 = true := by kernel_rfl
theorem c113 : chkFn Tryz.prog 113 1 v113 r113 = true := by kernel_rfl
theorem c116 : chkFn Tryz.prog 116 2 v116 r116 = true := by kernel_rfl
theorem c117 : chkFn Tryz.prog 117 2 v117 r117 = true := by kernel_rfl
theorem c119 : chkFn Tryz.prog 119 2 v119 r119 = true := by kernel_rfl
theorem c134 : chkFn Tryz.prog 134 2 v134 r134 = true := by kernel_rfl
theorem c137 : chkFn Tryz.prog 137 2 v137 r137 = true := by kernel_rfl
theorem c141 : chkFn Tryz.prog 141 2 v141 r141 = true := by kernel_rfl
theorem c144 : chkFn Tryz.prog 144 3 v144 r144 = true := by kernel_rfl
end Go.Vi
