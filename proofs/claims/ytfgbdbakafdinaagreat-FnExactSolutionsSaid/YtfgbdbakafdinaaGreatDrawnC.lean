import Derived.Test.YtfgbdbakafdinaaGreatFormSecond
import Derived.Test.YtfgbdbakafdinaaGreatDeepSecond
import Derived.Test.YtfgbdbakafdinaaGreatBase

section
set_option maxRecDepth 1000000
namespace Go.Ev.Z
open Go Go.Ev
theorem ra6_2 : AllRunB T 49 6 2 cuts6_2 := by unfold AllRunB; kernel_rfl
theorem rc6_2 : CtRun T 43 6 2 cuts6_2 := by unfold CtRun; kernel_rfl
theorem ra3_3 : AllRunB T 49 3 3 cuts3_3 := by unfold AllRunB; kernel_rfl
theorem rc3_3 : CtRun T 43 3 3 cuts3_3 := by unfold CtRun; kernel_rfl
theorem ra2_2 : AllRunB T 49 2 2 cuts2_2 := by unfold AllRunB; kernel_rfl
theorem rc2_2 : CtRun T 43 2 2 cuts2_2 := by unfold CtRun; kernel_rfl
end Go.Ev.Z
end
