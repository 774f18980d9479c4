/- Walks: whether a port is one, whatever it is. -/
import Derived.Test.YtifmdkcpbajdcaaGoodW
namespace Go.Proofs.Ytifmdkcpbajdcaa
open Go.RowKit Go.Proofs Plain

theorem good_port (p : Port) (A : Option Addr) (c : Nat) (w : World) (hp : PWf p) (hin : InP w p A) :
    Calls Try.prog 27 #[.agg (portA p A c)] w fun e w' => e = .returned (.bool (goodP p)) ∧ Below w.heap.size w w' := by
  cases hh : headB p with
  | true => exact good_body p A c w hp hin hh
  | false => exact good_head p A c w hp hin hh
end Go.Proofs.Ytifmdkcpbajdcaa
