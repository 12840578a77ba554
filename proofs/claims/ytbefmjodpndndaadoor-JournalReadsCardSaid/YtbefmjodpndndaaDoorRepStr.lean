
/- Words for memory: a string's cell. -/
import Derived.Test.YtbefmjodpndndaaDoorBase
set_option linter.unusedSimpArgs false
set_option linter.unusedVariables false
namespace Go.Proofs.YtbefmjodpndndaaDoor
instance : Rep ByteArray := ⟨1, fun _ _ cs s => cs = [.string s] ∧ s.size ≤ maxLen, fun _ _ h => h⟩
end Go.Proofs.YtbefmjodpndndaaDoor
