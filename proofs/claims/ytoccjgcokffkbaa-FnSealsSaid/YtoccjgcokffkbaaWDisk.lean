/- What the laws' helpers do to a Disk. Written by gen_wrap.py. -/
import Derived.Test.YtoccjgcokffkbaaStr
import Derived.Test.YtoccjgcokffkbaaData
namespace Go.Proofs.Ytoccjgcokffkbaa
set_option linter.unusedVariables false
set_option linter.unusedSimpArgs false
open Go.RowKit






end Go.Proofs.Ytoccjgcokffkbaa
