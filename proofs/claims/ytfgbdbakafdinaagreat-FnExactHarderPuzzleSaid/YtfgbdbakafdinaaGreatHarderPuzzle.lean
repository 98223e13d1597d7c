/- HarderPuzzle, of any puzzle, answers what the reference answers in every field, leaves its argument as it was and hands on memory of its own. Conditions: none. -/
import Derived.Test.YtfgbdbakafdinaaGreatRow
import Derived.Test.YtfgbdbakafdinaaGreatLaw

section
namespace Go.Proofs.YtfgbdbakafdinaaGreat
/-- HarderPuzzle answers as the reference does. -/
theorem harderPuzzle : Rows.FnExactHarderPuzzleSaid := Zrow.over Go.Ev.Z.tabOK Go.Ev.Z.run3
end Go.Proofs.YtfgbdbakafdinaaGreat
end
