/- FnExactFrames holds: for every list of texts the program Frames answers as the reference does. No condition. -/
import Derived.Test.YtojjjhbiccgjkaaKFrames
import Derived.Test.YtojjjhbiccgjkaaFrm
namespace Go.Proofs.Ytojjjhbiccgjkaa
set_option linter.unusedVariables false
set_option linter.unusedSimpArgs false
theorem holds_Frames : Rows.FnExactFramesSaid :=
  said_Frames framesM framesOk (fun l hb B g lo hi W hr hg => specFrames_c B g lo hi _ l W hr rfl hb) (fun l hb B g lo hi W hr hg => implFrames_c B g lo hi _ l W hr rfl hb)
end Go.Proofs.Ytojjjhbiccgjkaa
