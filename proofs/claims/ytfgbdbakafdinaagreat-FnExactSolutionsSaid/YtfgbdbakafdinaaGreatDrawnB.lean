import Derived.Test.YtfgbdbakafdinaaGreatFormSecond
import Derived.Test.YtfgbdbakafdinaaGreatDeepSecond
import Derived.Test.YtfgbdbakafdinaaGreatBase

section
set_option maxRecDepth 1000000
namespace Go.Ev.Z
open Go Go.Ev
theorem ra4_3 : AllRunB T 49 4 3 cuts4_3 := by unfold AllRunB; kernel_rfl
theorem rc4_3 : CtRun T 43 4 3 cuts4_3 := by unfold CtRun; kernel_rfl
theorem ra5_2 : AllRunB T 49 5 2 cuts5_2 := by unfold AllRunB; kernel_rfl
theorem rc5_2 : CtRun T 43 5 2 cuts5_2 := by unfold CtRun; kernel_rfl
theorem ra2_1 : AllRunB T 49 2 1 cuts2_1 := by unfold AllRunB; kernel_rfl
theorem rc2_1 : CtRun T 43 2 1 cuts2_1 := by unfold CtRun; kernel_rfl
theorem ra3_1 : AllRunB T 49 3 1 cuts3_1 := by unfold AllRunB; kernel_rfl
theorem rc3_1 : CtRun T 43 3 1 cuts3_1 := by unfold CtRun; kernel_rfl
theorem ra4_1 : AllRunB T 49 4 1 cuts4_1 := by unfold AllRunB; kernel_rfl
theorem rc4_1 : CtRun T 43 4 1 cuts4_1 := by unfold CtRun; kernel_rfl
theorem ra5_1 : AllRunB T 49 5 1 cuts5_1 := by unfold AllRunB; kernel_rfl
theorem rc5_1 : CtRun T 43 5 1 cuts5_1 := by unfold CtRun; kernel_rfl
theorem ra6_1 : AllRunB T 49 6 1 cuts6_1 := by unfold AllRunB; kernel_rfl
theorem rc6_1 : CtRun T 43 6 1 cuts6_1 := by unfold CtRun; kernel_rfl
end Go.Ev.Z
end
