/-
  No cell of these rows narrows 'for every input' (looked for: loops, veiled, ifaces, maps, wideKeys, modest, calm, conditions, laid).
  DERIVED. THE GIVEN ROWS OF THIS SEAT. 5 by the template 'for every input the law returns true; each argument reads behind the call as it read before'; 0 by the template 'total and deterministic' (their statements: YtifmdkcpbajdcabTotals.lean).
  GIVEN WITH THE SEED: the statements are not yours to turn. If you find one false, say at which input.
  Laid BY PROGRAM, IN A SANDBOX (cutbox-rows.mjs): the forced cells as the released guide's own fill.sh prints them over the translation 7b8e744834440331… (all of the seat's roots in one cut). By AI agents, Wed Nov 11 2026. No macro, syntax, notation, axiom, sorry.
-/
import Derived.Test.YtifmdkcpbajdcabChecked
import GoSem.Claim
import GoSem.ClaimJoined
import GoSem.ClaimMapViews
import Derived.JoinedTies
import Derived.KernelRfl
namespace Go.Proofs.Ytifmdkcpbajdcab
/- THE CELL 'sum', in the pinned program and in every row, IS THE sha256 OF THE DUMP (.gsa) THAT YtifmdkcpbajdcabProg.lean LOADS. Nothing in Lean hashes anything: it is a label: what it is worth is what the hold of that sum in a sandbox is worth. -/
noncomputable def Try.pinned : Pinned := { name := "ytifmdkcpbajdcab", sum := "7b8e7448344403311f35f148951c0fa5a27a1b2789a02d2feeb44ed991b15869", checked := Try.checked }
namespace Rows
def none {H : Type} : Left H := { results := [], args := [] }

/-- 'berthingkeep.PortLater': WHATEVER THE INPUT: true; the input reads as it did. -/
def portLaterSpec : ChangeSpec := { name := "portLater", fn := fun _ => fun
  | [d] => { results := [.lit (.bool true)], args := [d] }
  | _ => none }
def portLaterRow : OpenClaim := { program := "ytifmdkcpbajdcab", sum := "7b8e7448344403311f35f148951c0fa5a27a1b2789a02d2feeb44ed991b15869", func := "berthing/berthingkeep.PortLater", spec := "portLater", inPlace := ["slices.overlaps[berthing/api.Step]"], unfollowed := true, recurses := true, apart := false }
def PortLaterSaid : Prop := portLaterRow.holds Try.pinned (OpenSpec.ofChange portLaterSpec)

/-- ITS FALSE NEIGHBOUR: 'it returns false'. Refute it at one input. -/
def portLaterWrong : ChangeSpec := { name := "portLater", fn := fun _ => fun
  | [d] => { results := [.lit (.bool false)], args := [d] }
  | _ => none }
def PortLaterWrongFalsely : Prop := portLaterRow.holds Try.pinned (OpenSpec.ofChange portLaterWrong)

/-- 'berthinglaw.MendPlans': WHATEVER THE INPUT: true; the input reads as it did. -/
def mendPlansSpec : ChangeSpec := { name := "mendPlans", fn := fun _ => fun
  | [d1, d2] => { results := [.lit (.bool true)], args := [d1, d2] }
  | _ => none }
def mendPlansRow : OpenClaim := { program := "ytifmdkcpbajdcab", sum := "7b8e7448344403311f35f148951c0fa5a27a1b2789a02d2feeb44ed991b15869", func := "berthing/berthinglaw.MendPlans", spec := "mendPlans", inPlace := ["slices.overlaps[berthing/api.Step]"], unfollowed := true, recurses := true, apart := false }
def MendPlansSaid : Prop := mendPlansRow.holds Try.pinned (OpenSpec.ofChange mendPlansSpec)

/-- ITS FALSE NEIGHBOUR: 'it returns false'. Refute it at one input. -/
def mendPlansWrong : ChangeSpec := { name := "mendPlans", fn := fun _ => fun
  | [d1, d2] => { results := [.lit (.bool false)], args := [d1, d2] }
  | _ => none }
def MendPlansWrongFalsely : Prop := mendPlansRow.holds Try.pinned (OpenSpec.ofChange mendPlansWrong)

/-- 'berthingkeep.MendSame': WHATEVER THE INPUT: true; the input reads as it did. -/
def mendSameSpec : ChangeSpec := { name := "mendSame", fn := fun _ => fun
  | [d1, d2] => { results := [.lit (.bool true)], args := [d1, d2] }
  | _ => none }
def mendSameRow : OpenClaim := { program := "ytifmdkcpbajdcab", sum := "7b8e7448344403311f35f148951c0fa5a27a1b2789a02d2feeb44ed991b15869", func := "berthing/berthingkeep.MendSame", spec := "mendSame", inPlace := ["slices.overlaps[berthing/api.Step]"], unfollowed := true, recurses := true, apart := false }
def MendSameSaid : Prop := mendSameRow.holds Try.pinned (OpenSpec.ofChange mendSameSpec)

/-- ITS FALSE NEIGHBOUR: 'it returns false'. Refute it at one input. -/
def mendSameWrong : ChangeSpec := { name := "mendSame", fn := fun _ => fun
  | [d1, d2] => { results := [.lit (.bool false)], args := [d1, d2] }
  | _ => none }
def MendSameWrongFalsely : Prop := mendSameRow.holds Try.pinned (OpenSpec.ofChange mendSameWrong)

/-- 'berthingkeep.MendIdle': WHATEVER THE INPUT: true; the input reads as it did. -/
def mendIdleSpec : ChangeSpec := { name := "mendIdle", fn := fun _ => fun
  | [d] => { results := [.lit (.bool true)], args := [d] }
  | _ => none }
def mendIdleRow : OpenClaim := { program := "ytifmdkcpbajdcab", sum := "7b8e7448344403311f35f148951c0fa5a27a1b2789a02d2feeb44ed991b15869", func := "berthing/berthingkeep.MendIdle", spec := "mendIdle", inPlace := ["slices.overlaps[berthing/api.Step]"], unfollowed := true, recurses := true, apart := false }
def MendIdleSaid : Prop := mendIdleRow.holds Try.pinned (OpenSpec.ofChange mendIdleSpec)

/-- ITS FALSE NEIGHBOUR: 'it returns false'. Refute it at one input. -/
def mendIdleWrong : ChangeSpec := { name := "mendIdle", fn := fun _ => fun
  | [d] => { results := [.lit (.bool false)], args := [d] }
  | _ => none }
def MendIdleWrongFalsely : Prop := mendIdleRow.holds Try.pinned (OpenSpec.ofChange mendIdleWrong)

/-- 'berthinglaw.PortTurns': WHATEVER THE INPUT: true; the input reads as it did. -/
def portTurnsSpec : ChangeSpec := { name := "portTurns", fn := fun _ => fun
  | [d1, d2, d3] => { results := [.lit (.bool true)], args := [d1, d2, d3] }
  | _ => none }
def portTurnsRow : OpenClaim := { program := "ytifmdkcpbajdcab", sum := "7b8e7448344403311f35f148951c0fa5a27a1b2789a02d2feeb44ed991b15869", func := "berthing/berthinglaw.PortTurns", spec := "portTurns", inPlace := ["slices.overlaps[berthing/api.Step]", "internal/bytealg.IndexByteString", "internal/bytealg.IndexString"], unfollowed := true, recurses := true, named := ["internal/bytealg.MaxLen"], apart := false }
def PortTurnsSaid : Prop := portTurnsRow.holds Try.pinned (OpenSpec.ofChange portTurnsSpec)

/-- ITS FALSE NEIGHBOUR: 'it returns false'. Refute it at one input. -/
def portTurnsWrong : ChangeSpec := { name := "portTurns", fn := fun _ => fun
  | [d1, d2, d3] => { results := [.lit (.bool false)], args := [d1, d2, d3] }
  | _ => none }
def PortTurnsWrongFalsely : Prop := portTurnsRow.holds Try.pinned (OpenSpec.ofChange portTurnsWrong)

/- THE SECOND FORM. 'bulk': how many values and letters a reading holds, each counted each time it is reached (what is shared counts as often as it is met; a slice's spare places count too). A statement '..UptoSaid' is the law's where the arguments, and the package variables that the reading takes, are together of bulk at most 1048576: NARROWER than '..Said'. Prove '..Said' where nothing that the law and all that it calls make is longer than what came in: it says more and counts as full. Else prove '..UptoSaid'. A law counts once. -/
mutual
def uptoBulk {H : Type} : DataW H → Nat
  | .lit (.string bytes) => bytes.length + 1
  | .lit _ => 1
  | .nil => 1
  | .ptr d => uptoBulk d + 1
  | .slice elems spare => uptoBulkAll elems + uptoBulkAll spare + 1
  | .agg parts => uptoBulkAll parts + 1
  | .iface _ d => uptoBulk d + 1
  | .map entries => uptoBulkEntries entries + 1
  | .held _ => 1
def uptoBulkAll {H : Type} : List (DataW H) → Nat
  | [] => 0
  | d :: r => uptoBulk d + uptoBulkAll r
def uptoBulkEntries {H : Type} : List (Lit × DataW H) → Nat
  | [] => 0
  | x :: r => uptoBulkEntry x + uptoBulkEntries r
def uptoBulkEntry {H : Type} : Lit × DataW H → Nat
  | (.string bytes, d) => bytes.length + uptoBulk d + 1
  | (_, d) => uptoBulk d + 1
 end
def uptoSmall : (H : Type) → List (DataW H) → Bool := fun _ ds => decide (uptoBulkAll ds ≤ 1048576)
def OpenSpec.upto (s : _root_.Go.ChangeSpec) : _root_.Go.OpenSpec := { _root_.Go.OpenSpec.ofChange s with cond := some uptoSmall }

/-- 'berthingkeep.PortLater', WHERE WHAT IT READS IS OF BULK AT MOST 1048576: true; the input reads as it did. -/
def portLaterUptoRow : OpenClaim := { program := "ytifmdkcpbajdcab", sum := "7b8e7448344403311f35f148951c0fa5a27a1b2789a02d2feeb44ed991b15869", func := "berthing/berthingkeep.PortLater", spec := "portLater", inPlace := ["slices.overlaps[berthing/api.Step]"], unfollowed := true, recurses := true, apart := false, narrowed := true }
def PortLaterUptoSaid : Prop := portLaterUptoRow.holds Try.pinned (OpenSpec.upto portLaterSpec)

/-- 'berthinglaw.MendPlans', WHERE WHAT IT READS IS OF BULK AT MOST 1048576: true; the input reads as it did. -/
def mendPlansUptoRow : OpenClaim := { program := "ytifmdkcpbajdcab", sum := "7b8e7448344403311f35f148951c0fa5a27a1b2789a02d2feeb44ed991b15869", func := "berthing/berthinglaw.MendPlans", spec := "mendPlans", inPlace := ["slices.overlaps[berthing/api.Step]"], unfollowed := true, recurses := true, apart := false, narrowed := true }
def MendPlansUptoSaid : Prop := mendPlansUptoRow.holds Try.pinned (OpenSpec.upto mendPlansSpec)

/-- 'berthingkeep.MendSame', WHERE WHAT IT READS IS OF BULK AT MOST 1048576: true; the input reads as it did. -/
def mendSameUptoRow : OpenClaim := { program := "ytifmdkcpbajdcab", sum := "7b8e7448344403311f35f148951c0fa5a27a1b2789a02d2feeb44ed991b15869", func := "berthing/berthingkeep.MendSame", spec := "mendSame", inPlace := ["slices.overlaps[berthing/api.Step]"], unfollowed := true, recurses := true, apart := false, narrowed := true }
def MendSameUptoSaid : Prop := mendSameUptoRow.holds Try.pinned (OpenSpec.upto mendSameSpec)

/-- 'berthingkeep.MendIdle', WHERE WHAT IT READS IS OF BULK AT MOST 1048576: true; the input reads as it did. -/
def mendIdleUptoRow : OpenClaim := { program := "ytifmdkcpbajdcab", sum := "7b8e7448344403311f35f148951c0fa5a27a1b2789a02d2feeb44ed991b15869", func := "berthing/berthingkeep.MendIdle", spec := "mendIdle", inPlace := ["slices.overlaps[berthing/api.Step]"], unfollowed := true, recurses := true, apart := false, narrowed := true }
def MendIdleUptoSaid : Prop := mendIdleUptoRow.holds Try.pinned (OpenSpec.upto mendIdleSpec)

/-- 'berthinglaw.PortTurns', WHERE WHAT IT READS IS OF BULK AT MOST 1048576: true; the input reads as it did. -/
def portTurnsUptoRow : OpenClaim := { program := "ytifmdkcpbajdcab", sum := "7b8e7448344403311f35f148951c0fa5a27a1b2789a02d2feeb44ed991b15869", func := "berthing/berthinglaw.PortTurns", spec := "portTurns", inPlace := ["slices.overlaps[berthing/api.Step]", "internal/bytealg.IndexByteString", "internal/bytealg.IndexString"], unfollowed := true, recurses := true, named := ["internal/bytealg.MaxLen"], apart := false, narrowed := true }
def PortTurnsUptoSaid : Prop := portTurnsUptoRow.holds Try.pinned (OpenSpec.upto portTurnsSpec)

end Rows
end Go.Proofs.Ytifmdkcpbajdcab
