/- Solutions, of any puzzle, answers what the reference answers in every field, leaves its argument as it was and hands on memory of its own. Conditions: none. -/
import Derived.Test.YtfgbdbakafdinaaGreatRowThird
import Derived.Test.YtfgbdbakafdinaaGreatLawThird

section
namespace Go.Proofs.YtfgbdbakafdinaaGreat
/-- Solutions answers as the reference does. -/
theorem solutions : Rows.FnExactSolutionsSaid := Zrow.over Go.Ev.Z.tabOK Go.Ev.Z.run5
end Go.Proofs.YtfgbdbakafdinaaGreat
end
