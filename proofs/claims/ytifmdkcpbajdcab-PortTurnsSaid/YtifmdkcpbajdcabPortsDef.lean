/- Words: port answers at all. -/
import Derived.Test.YtifmdkcpbajdcabPlanB
import Derived.Test.YtifmdkcpbajdcabRankQ
import Derived.Test.YtifmdkcpbajdcabGoodW
set_option linter.unusedVariables false
set_option linter.unusedSimpArgs false
namespace Go.Proofs.Ytifmdkcpbajdcab
open Go.RowKit Go.Proofs Plain

def PortsOk : Prop := ∀ w, Calls Try.prog 9 #[] w fun e w' => e = .returned (.bool true) ∧ Below w.heap.size w w'

end Go.Proofs.Ytifmdkcpbajdcab
