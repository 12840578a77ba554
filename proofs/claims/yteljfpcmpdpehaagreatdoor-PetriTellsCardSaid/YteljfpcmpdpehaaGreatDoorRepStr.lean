
/- Words for memory: a string's cell. -/
import Derived.Test.YteljfpcmpdpehaaGreatDoorBase
set_option linter.unusedSimpArgs false
set_option linter.unusedVariables false
namespace Go.Proofs.YteljfpcmpdpehaaGreatDoor
instance : Rep ByteArray := ⟨1, fun _ _ cs s => cs = [.string s] ∧ s.size ≤ maxLen, fun _ _ h => h⟩
end Go.Proofs.YteljfpcmpdpehaaGreatDoor
