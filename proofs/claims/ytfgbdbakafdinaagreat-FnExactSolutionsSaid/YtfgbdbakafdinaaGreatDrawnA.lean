import Derived.Test.YtfgbdbakafdinaaGreatFormSecond
import Derived.Test.YtfgbdbakafdinaaGreatDeepSecond
import Derived.Test.YtfgbdbakafdinaaGreatBase

section
set_option maxRecDepth 1000000
namespace Go.Ev.Z
open Go Go.Ev
theorem ra3_4 : AllRunB T 49 3 4 cuts3_4 := by unfold AllRunB; kernel_rfl
theorem rc3_4 : CtRun T 43 3 4 cuts3_4 := by unfold CtRun; kernel_rfl
theorem ra2_5 : AllRunB T 49 2 5 cuts2_5 := by unfold AllRunB; kernel_rfl
theorem rc2_5 : CtRun T 43 2 5 cuts2_5 := by unfold CtRun; kernel_rfl
theorem ra1_1 : AllRunB T 49 1 1 cuts1_1 := by unfold AllRunB; kernel_rfl
theorem rc1_1 : CtRun T 43 1 1 cuts1_1 := by unfold CtRun; kernel_rfl
theorem ra1_2 : AllRunB T 49 1 2 cuts1_2 := by unfold AllRunB; kernel_rfl
theorem rc1_2 : CtRun T 43 1 2 cuts1_2 := by unfold CtRun; kernel_rfl
theorem ra1_3 : AllRunB T 49 1 3 cuts1_3 := by unfold AllRunB; kernel_rfl
theorem rc1_3 : CtRun T 43 1 3 cuts1_3 := by unfold CtRun; kernel_rfl
theorem ra1_4 : AllRunB T 49 1 4 cuts1_4 := by unfold AllRunB; kernel_rfl
theorem rc1_4 : CtRun T 43 1 4 cuts1_4 := by unfold CtRun; kernel_rfl
theorem ra1_5 : AllRunB T 49 1 5 cuts1_5 := by unfold AllRunB; kernel_rfl
theorem rc1_5 : CtRun T 43 1 5 cuts1_5 := by unfold CtRun; kernel_rfl
theorem ra1_6 : AllRunB T 49 1 6 cuts1_6 := by unfold AllRunB; kernel_rfl
theorem rc1_6 : CtRun T 43 1 6 cuts1_6 := by unfold CtRun; kernel_rfl
end Go.Ev.Z
end
