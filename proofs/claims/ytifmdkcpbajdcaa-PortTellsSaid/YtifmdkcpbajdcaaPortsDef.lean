/- Words: port answers at all. -/
import Derived.Test.YtifmdkcpbajdcaaPlanB
import Derived.Test.YtifmdkcpbajdcaaRanked
import Derived.Test.YtifmdkcpbajdcaaGoodW
namespace Go.Proofs.Ytifmdkcpbajdcaa
open Go.RowKit Go.Proofs Plain

def PortsOk : Prop := ∀ w, Calls Try.prog 41 #[] w fun e w' => e = .returned (.bool true) ∧ Below w.heap.size w w'

end Go.Proofs.Ytifmdkcpbajdcaa
