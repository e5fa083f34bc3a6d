/- A part of this claim's proof: models of the functions that the law reaches, with the proof that the functions compute them; plain laws about the models. No conditions beyond those in each theorem's statement. -/
import Derived.Test.YtbihfglmcjkdhaaW02f
namespace Go.Proofs.Ytbihfglmcjkdhaa
open Go Go.RowKit Sep
set_option linter.all false
theorem awake_eq : m_law02_awake = some true := by kernel_rfl
end Go.Proofs.Ytbihfglmcjkdhaa
