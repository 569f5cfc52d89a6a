import Derived.Test.YtcakellhellddaaGreatDoorLw
import Derived.Test.YtcakellhellddaaGreatDoorProg
set_option linter.unusedSimpArgs false
set_option linter.unusedVariables false
namespace Go.Proofs.YtcakellhellddaaGreatDoor
theorem sl_str : Tryz.prog.underlying 50 = some (.slice 9) := by kernel_rfl
theorem str_info : (Tryz.prog.info? 9).map (fun i => (i.zero, i.size, i.bytes)) = some (some (.string ByteArray.empty), 1, 16) := by kernel_rfl
end Go.Proofs.YtcakellhellddaaGreatDoor
