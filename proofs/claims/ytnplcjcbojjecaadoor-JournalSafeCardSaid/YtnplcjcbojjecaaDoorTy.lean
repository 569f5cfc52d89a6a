import Derived.Test.YtnplcjcbojjecaaDoorLw
import Derived.Test.YtnplcjcbojjecaaDoorProg
set_option linter.unusedSimpArgs false
set_option linter.unusedVariables false
namespace Go.Proofs.YtnplcjcbojjecaaDoor
theorem sl_str : Tryd.prog.underlying 24 = some (.slice 9) := by kernel_rfl
theorem str_info : (Tryd.prog.info? 9).map (fun i => (i.zero, i.size, i.bytes)) = some (some (.string ByteArray.empty), 1, 16) := by kernel_rfl
end Go.Proofs.YtnplcjcbojjecaaDoor
