/- FirstSolution, of any puzzle, answers what the reference answers in every field, leaves its argument as it was and hands on memory of its own. Conditions: none. -/
import Derived.Test.YtfgbdbakafdinaaGreatRowSecond
import Derived.Test.YtfgbdbakafdinaaGreatLawSecond

section
namespace Go.Proofs.YtfgbdbakafdinaaGreat
/-- FirstSolution answers as the reference does. -/
theorem firstSolution : Rows.FnExactFirstSolutionSaid := Zrow.over Go.Ev.Z.tabOK Go.Ev.Z.run4
end Go.Proofs.YtfgbdbakafdinaaGreat
end
