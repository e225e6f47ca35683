/- FnExactDiskNew holds: the program DiskNew gives the disk that the reference gives. No condition. -/
import Derived.Test.YtjmhebmjlnianaaKDiskNew
import Derived.Test.YtjmhebmjlnianaaFnA2
namespace Go.Proofs.Ytjmhebmjlnianaa
set_option linter.unusedVariables false
set_option linter.unusedSimpArgs false
theorem holds_DiskNew : Rows.FnExactDiskNewSaid :=
  said_DiskNew noFiles (fun W => specDiskNew_c W) (fun W => implDiskNew_c W) (by decide)
end Go.Proofs.Ytjmhebmjlnianaa
