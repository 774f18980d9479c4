/- Plain laws: two ships come to a new desk. -/
import Derived.Test.YtifmdkcpbajdcabGreatDoorPlain
set_option linter.unusedVariables false
set_option linter.unusedSimpArgs false
namespace Go.Proofs.YtifmdkcpbajdcabGreatDoor.Plain
end Go.Proofs.YtifmdkcpbajdcabGreatDoor.Plain
