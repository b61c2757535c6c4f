/-
  The kernel's checks.
-/
import Derived.Test.YtkjnedjjdmfpbaaGreatDoorA5
import Derived.Test.YtkjnedjjdmfpbaaGreatDoorProg
import Derived.KernelRfl
import Derived.Test.YtkjnedjjdmfpbaaGreatDoorT1
import Derived.Test.YtkjnedjjdmfpbaaGreatDoorT2
set_option linter.unusedVariables false
set_option linter.unusedSimpArgs false
set_option linter.unusedSectionVars false
namespace Go.Vi
open Go.Proofs
set_option maxRecDepth 100000
theorem c13 : chkFn Tryz.prog 13 6 v13 r13 = true := by kernel_rfl
theorem c35 : chkFn Tryz.prog 35 2 v35 r35 = true := by kernel_rfl
theorem c90 : chkFn Tryz.prog 90 2 v90 r90 = true := by kernel_rfl
theorem c161 : chkFn Tryz.prog 161 3 v161 r161 = true := by kernel_rfl
theorem c94 : chkFn Tryz.prog 94 3 v94 r94 = true := by kernel_rfl
theorem c68 : chkFn Tryz.prog 68 3 v68 r68 = true := by kernel_rfl
theorem c55 : chkFn Tryz.prog 55 2 v55 r55 = true := by kernel_rfl
theorem c141 : chkFn Tryz.prog 141 2 v141 r141 = true := by kernel_rfl
theorem c23 : chkFn Tryz.prog 23 1 v23 r23 = true := by kernel_rfl
theorem c119 : chkFn Tryz.prog 119 2 v119 r119 = true := by kernel_rfl
theorem c121 : chkFn Tryz.prog 121 2 v121 r121 = true := by kernel_rfl
theorem c100 : chkFn Tryz.prog 100 2 v100 r100 = true := by kernel_rfl
theorem c103 : chkFn Tryz.prog 103 2 v103 r103 = true := by kernel_rfl
theorem c21 : chkFn Tryz.prog 21 1 v21 r21 = true := by kernel_rfl
end Go.Vi
namespace Go.Vi
open Go.Proofs
set_option maxRecDepth 100000
theorem c4 : chkFn Tryz.prog 4 5 v4 r4 = true := by kernel_rfl
theorem c3 : chkFn Tryz.prog 3 4 v3 r3 = true := by kernel_rfl
theorem c10 : chkFn Tryz.prog 10 4 v10 r10 = true := by kernel_rfl
theorem c56 : chkFn Tryz.prog 56 3 v56 r56 = true := by kernel_rfl
theorem c51 : chkFn Tryz.prog 51 2 v51 r51 = true := by kernel_rfl
theorem c115 : chkFn Tryz.prog 115 2 v115 r115 = true := by kernel_rfl
theorem c79 : chkFn Tryz.prog 79 3 v79 r79 = true := by kernel_rfl
theorem c118 : chkFn Tryz.prog 118 2 v118 r118 = true := by kernel_rfl
theorem c153 : chkFn Tryz.prog 153 2 v153 r153 = true := by kernel_rfl
theorem c117 : chkFn Tryz.prog 117 2 v117 r117 = true := by kernel_rfl
theorem c78 : chkFn Tryz.prog 78 1 v78 r78 = true := by kernel_rfl
theorem c69 : chkFn Tryz.prog 69 1 v69 r69 = true := by kernel_rfl
theorem c104 : chkFn Tryz.prog 104 2 v104 r104 = true := by kernel_rfl
theorem c109 : chkFn Tryz.prog 109 2 v109 r109 = true := by kernel_rfl
theorem c75 : chkFn Tryz.prog 75 1 v75 r75 = true := by kernel_rfl
end Go.Vi
