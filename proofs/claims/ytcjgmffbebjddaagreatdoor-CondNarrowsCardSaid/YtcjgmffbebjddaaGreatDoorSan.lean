/- The examples that every law computes first. -/
import Derived.Test.YtcjgmffbebjddaaGreatDoorNat2
import Derived.KernelRfl
set_option linter.all false
set_option maxRecDepth 1000000
set_option maxHeartbeats 0
namespace Go.Proofs.YtcjgmffbebjddaaGreatDoor
open Go Go.Eng
theorem sanity_ok : law21_sanity 1000 = some true := by kernel_rfl
end Go.Proofs.YtcjgmffbebjddaaGreatDoor
