import Derived.Test.YtfgbdbakafdinaaGreatFormSecond
import Derived.Test.YtfgbdbakafdinaaGreatDeepSecond
import Derived.Test.YtfgbdbakafdinaaGreatBase

section
set_option maxRecDepth 1000000
namespace Go.Ev.Z
open Go Go.Ev
theorem ra2_6 : AllRunB T 49 2 6 cuts2_6 := by unfold AllRunB; kernel_rfl
theorem rc2_6 : CtRun T 43 2 6 cuts2_6 := by unfold CtRun; kernel_rfl
theorem ra2_3 : AllRunB T 49 2 3 cuts2_3 := by unfold AllRunB; kernel_rfl
theorem rc2_3 : CtRun T 43 2 3 cuts2_3 := by unfold CtRun; kernel_rfl
theorem ra2_4 : AllRunB T 49 2 4 cuts2_4 := by unfold AllRunB; kernel_rfl
theorem rc2_4 : CtRun T 43 2 4 cuts2_4 := by unfold CtRun; kernel_rfl
theorem ra3_2 : AllRunB T 49 3 2 cuts3_2 := by unfold AllRunB; kernel_rfl
theorem rc3_2 : CtRun T 43 3 2 cuts3_2 := by unfold CtRun; kernel_rfl
theorem ra4_2 : AllRunB T 49 4 2 cuts4_2 := by unfold AllRunB; kernel_rfl
theorem rc4_2 : CtRun T 43 4 2 cuts4_2 := by unfold CtRun; kernel_rfl
end Go.Ev.Z
end
