/-
  No cell of these rows narrows 'for every input' (looked for: loops, veiled, ifaces, maps, wideKeys, modest, calm, conditions, laid).
  DERIVED. THE GIVEN ROWS OF THIS SEAT. 9 by the template 'for every input the law returns true; each argument reads behind the call as it read before'; 0 by the template 'total and deterministic' (their statements: YtifmdkcpbajdcaaTotals.lean).
  GIVEN WITH THE SEED: the statements are not yours to turn. If you find one false, say at which input.
  Laid BY PROGRAM, IN A SANDBOX (cutbox-rows.mjs): the forced cells as the released guide's own fill.sh prints them over the translation 2428980f96956dc5… (all of the seat's roots in one cut). By AI agents, Wed Nov 11 2026. No macro, syntax, notation, axiom, sorry.
-/
import Derived.Test.YtifmdkcpbajdcaaChecked
import GoSem.Claim
import GoSem.ClaimJoined
import GoSem.ClaimMapViews
import Derived.JoinedTies
import Derived.KernelRfl
namespace Go.Proofs.Ytifmdkcpbajdcaa
/- THE CELL 'sum', in the pinned program and in every row, IS THE sha256 OF THE DUMP (.gsa) THAT YtifmdkcpbajdcaaProg.lean LOADS. Nothing in Lean hashes anything: it is a label: what it is worth is what the hold of that sum in a sandbox is worth. -/
noncomputable def Try.pinned : Pinned := { name := "ytifmdkcpbajdcaa", sum := "2428980f96956dc5b70604ce33f66d4be4c06bab47336a5c0d6f07ffe397a8b6", checked := Try.checked }
namespace Rows
def none {H : Type} : Left H := { results := [], args := [] }

/-- 'berthinglaw.Names': WHATEVER THE INPUT: true; the input reads as it did. -/
def namesSpec : ChangeSpec := { name := "names", fn := fun _ => fun
  | [] => { results := [.lit (.bool true)], args := [] }
  | _ => none }
def namesRow : OpenClaim := { program := "ytifmdkcpbajdcaa", sum := "2428980f96956dc5b70604ce33f66d4be4c06bab47336a5c0d6f07ffe397a8b6", func := "berthing/berthinglaw.Names", spec := "names", apart := false }
def NamesSaid : Prop := namesRow.holds Try.pinned (OpenSpec.ofChange namesSpec)

/-- ITS FALSE NEIGHBOUR: 'it returns false'. Refute it at one input. -/
def namesWrong : ChangeSpec := { name := "names", fn := fun _ => fun
  | [] => { results := [.lit (.bool false)], args := [] }
  | _ => none }
def NamesWrongFalsely : Prop := namesRow.holds Try.pinned (OpenSpec.ofChange namesWrong)

/-- 'berthinglaw.SpanTells': WHATEVER THE INPUT: true; the input reads as it did. -/
def spanTellsSpec : ChangeSpec := { name := "spanTells", fn := fun _ => fun
  | [d1, d2, d3, d4, d5] => { results := [.lit (.bool true)], args := [d1, d2, d3, d4, d5] }
  | _ => none }
def spanTellsRow : OpenClaim := { program := "ytifmdkcpbajdcaa", sum := "2428980f96956dc5b70604ce33f66d4be4c06bab47336a5c0d6f07ffe397a8b6", func := "berthing/berthinglaw.SpanTells", spec := "spanTells", inPlace := ["slices.overlaps[berthing/api.Step]"], unfollowed := true, recurses := true, apart := false }
def SpanTellsSaid : Prop := spanTellsRow.holds Try.pinned (OpenSpec.ofChange spanTellsSpec)

/-- ITS FALSE NEIGHBOUR: 'it returns false'. Refute it at one input. -/
def spanTellsWrong : ChangeSpec := { name := "spanTells", fn := fun _ => fun
  | [d1, d2, d3, d4, d5] => { results := [.lit (.bool false)], args := [d1, d2, d3, d4, d5] }
  | _ => none }
def SpanTellsWrongFalsely : Prop := spanTellsRow.holds Try.pinned (OpenSpec.ofChange spanTellsWrong)

/-- 'berthingkeep.SpanFirst': WHATEVER THE INPUT: true; the input reads as it did. -/
def spanFirstSpec : ChangeSpec := { name := "spanFirst", fn := fun _ => fun
  | [d1, d2, d3, d4] => { results := [.lit (.bool true)], args := [d1, d2, d3, d4] }
  | _ => none }
def spanFirstRow : OpenClaim := { program := "ytifmdkcpbajdcaa", sum := "2428980f96956dc5b70604ce33f66d4be4c06bab47336a5c0d6f07ffe397a8b6", func := "berthing/berthingkeep.SpanFirst", spec := "spanFirst", inPlace := ["slices.overlaps[berthing/api.Step]"], unfollowed := true, recurses := true, apart := false }
def SpanFirstSaid : Prop := spanFirstRow.holds Try.pinned (OpenSpec.ofChange spanFirstSpec)

/-- ITS FALSE NEIGHBOUR: 'it returns false'. Refute it at one input. -/
def spanFirstWrong : ChangeSpec := { name := "spanFirst", fn := fun _ => fun
  | [d1, d2, d3, d4] => { results := [.lit (.bool false)], args := [d1, d2, d3, d4] }
  | _ => none }
def SpanFirstWrongFalsely : Prop := spanFirstRow.holds Try.pinned (OpenSpec.ofChange spanFirstWrong)

/-- 'berthinglaw.SpanTakes': WHATEVER THE INPUT: true; the input reads as it did. -/
def spanTakesSpec : ChangeSpec := { name := "spanTakes", fn := fun _ => fun
  | [d1, d2, d3, d4] => { results := [.lit (.bool true)], args := [d1, d2, d3, d4] }
  | _ => none }
def spanTakesRow : OpenClaim := { program := "ytifmdkcpbajdcaa", sum := "2428980f96956dc5b70604ce33f66d4be4c06bab47336a5c0d6f07ffe397a8b6", func := "berthing/berthinglaw.SpanTakes", spec := "spanTakes", inPlace := ["slices.overlaps[berthing/api.Step]"], unfollowed := true, recurses := true, apart := false }
def SpanTakesSaid : Prop := spanTakesRow.holds Try.pinned (OpenSpec.ofChange spanTakesSpec)

/-- ITS FALSE NEIGHBOUR: 'it returns false'. Refute it at one input. -/
def spanTakesWrong : ChangeSpec := { name := "spanTakes", fn := fun _ => fun
  | [d1, d2, d3, d4] => { results := [.lit (.bool false)], args := [d1, d2, d3, d4] }
  | _ => none }
def SpanTakesWrongFalsely : Prop := spanTakesRow.holds Try.pinned (OpenSpec.ofChange spanTakesWrong)

/-- 'berthingkeep.SpanBack': WHATEVER THE INPUT: true; the input reads as it did. -/
def spanBackSpec : ChangeSpec := { name := "spanBack", fn := fun _ => fun
  | [d1, d2, d3, d4] => { results := [.lit (.bool true)], args := [d1, d2, d3, d4] }
  | _ => none }
def spanBackRow : OpenClaim := { program := "ytifmdkcpbajdcaa", sum := "2428980f96956dc5b70604ce33f66d4be4c06bab47336a5c0d6f07ffe397a8b6", func := "berthing/berthingkeep.SpanBack", spec := "spanBack", inPlace := ["slices.overlaps[berthing/api.Step]"], unfollowed := true, recurses := true, apart := false }
def SpanBackSaid : Prop := spanBackRow.holds Try.pinned (OpenSpec.ofChange spanBackSpec)

/-- ITS FALSE NEIGHBOUR: 'it returns false'. Refute it at one input. -/
def spanBackWrong : ChangeSpec := { name := "spanBack", fn := fun _ => fun
  | [d1, d2, d3, d4] => { results := [.lit (.bool false)], args := [d1, d2, d3, d4] }
  | _ => none }
def SpanBackWrongFalsely : Prop := spanBackRow.holds Try.pinned (OpenSpec.ofChange spanBackWrong)

/-- 'berthinglaw.PortTells': WHATEVER THE INPUT: true; the input reads as it did. -/
def portTellsSpec : ChangeSpec := { name := "portTells", fn := fun _ => fun
  | [d1, d2, d3] => { results := [.lit (.bool true)], args := [d1, d2, d3] }
  | _ => none }
def portTellsRow : OpenClaim := { program := "ytifmdkcpbajdcaa", sum := "2428980f96956dc5b70604ce33f66d4be4c06bab47336a5c0d6f07ffe397a8b6", func := "berthing/berthinglaw.PortTells", spec := "portTells", inPlace := ["slices.overlaps[berthing/api.Step]"], unfollowed := true, recurses := true, apart := false }
def PortTellsSaid : Prop := portTellsRow.holds Try.pinned (OpenSpec.ofChange portTellsSpec)

/-- ITS FALSE NEIGHBOUR: 'it returns false'. Refute it at one input. -/
def portTellsWrong : ChangeSpec := { name := "portTells", fn := fun _ => fun
  | [d1, d2, d3] => { results := [.lit (.bool false)], args := [d1, d2, d3] }
  | _ => none }
def PortTellsWrongFalsely : Prop := portTellsRow.holds Try.pinned (OpenSpec.ofChange portTellsWrong)

/-- 'berthingkeep.PortRoom': WHATEVER THE INPUT: true; the input reads as it did. -/
def portRoomSpec : ChangeSpec := { name := "portRoom", fn := fun _ => fun
  | [d] => { results := [.lit (.bool true)], args := [d] }
  | _ => none }
def portRoomRow : OpenClaim := { program := "ytifmdkcpbajdcaa", sum := "2428980f96956dc5b70604ce33f66d4be4c06bab47336a5c0d6f07ffe397a8b6", func := "berthing/berthingkeep.PortRoom", spec := "portRoom", inPlace := ["slices.overlaps[berthing/api.Step]"], unfollowed := true, recurses := true, apart := false }
def PortRoomSaid : Prop := portRoomRow.holds Try.pinned (OpenSpec.ofChange portRoomSpec)

/-- ITS FALSE NEIGHBOUR: 'it returns false'. Refute it at one input. -/
def portRoomWrong : ChangeSpec := { name := "portRoom", fn := fun _ => fun
  | [d] => { results := [.lit (.bool false)], args := [d] }
  | _ => none }
def PortRoomWrongFalsely : Prop := portRoomRow.holds Try.pinned (OpenSpec.ofChange portRoomWrong)

/-- 'berthingkeep.PortRanks': WHATEVER THE INPUT: true; the input reads as it did. -/
def portRanksSpec : ChangeSpec := { name := "portRanks", fn := fun _ => fun
  | [d1, d2] => { results := [.lit (.bool true)], args := [d1, d2] }
  | _ => none }
def portRanksRow : OpenClaim := { program := "ytifmdkcpbajdcaa", sum := "2428980f96956dc5b70604ce33f66d4be4c06bab47336a5c0d6f07ffe397a8b6", func := "berthing/berthingkeep.PortRanks", spec := "portRanks", inPlace := ["slices.overlaps[berthing/api.Step]"], unfollowed := true, recurses := true, apart := false }
def PortRanksSaid : Prop := portRanksRow.holds Try.pinned (OpenSpec.ofChange portRanksSpec)

/-- ITS FALSE NEIGHBOUR: 'it returns false'. Refute it at one input. -/
def portRanksWrong : ChangeSpec := { name := "portRanks", fn := fun _ => fun
  | [d1, d2] => { results := [.lit (.bool false)], args := [d1, d2] }
  | _ => none }
def PortRanksWrongFalsely : Prop := portRanksRow.holds Try.pinned (OpenSpec.ofChange portRanksWrong)

/-- 'berthingkeep.PortFirst': WHATEVER THE INPUT: true; the input reads as it did. -/
def portFirstSpec : ChangeSpec := { name := "portFirst", fn := fun _ => fun
  | [d] => { results := [.lit (.bool true)], args := [d] }
  | _ => none }
def portFirstRow : OpenClaim := { program := "ytifmdkcpbajdcaa", sum := "2428980f96956dc5b70604ce33f66d4be4c06bab47336a5c0d6f07ffe397a8b6", func := "berthing/berthingkeep.PortFirst", spec := "portFirst", inPlace := ["slices.overlaps[berthing/api.Step]"], unfollowed := true, recurses := true, apart := false }
def PortFirstSaid : Prop := portFirstRow.holds Try.pinned (OpenSpec.ofChange portFirstSpec)

/-- ITS FALSE NEIGHBOUR: 'it returns false'. Refute it at one input. -/
def portFirstWrong : ChangeSpec := { name := "portFirst", fn := fun _ => fun
  | [d] => { results := [.lit (.bool false)], args := [d] }
  | _ => none }
def PortFirstWrongFalsely : Prop := portFirstRow.holds Try.pinned (OpenSpec.ofChange portFirstWrong)

/- THE SECOND FORM. 'bulk': how many values and letters a reading holds, each counted each time it is reached (what is shared counts as often as it is met; a slice's spare places count too). A statement '..UptoSaid' is the law's where the arguments, and the package variables that the reading takes, are together of bulk at most 1048576: NARROWER than '..Said'. Prove '..Said' where nothing that the law and all that it calls make is longer than what came in: it says more and counts as full. Else prove '..UptoSaid'. A law counts once. -/
mutual
def uptoBulk {H : Type} : DataW H → Nat
  | .lit (.string bytes) => bytes.length + 1
  | .lit _ => 1
  | .nil => 1
  | .ptr d => uptoBulk d + 1
  | .slice elems spare => uptoBulkAll elems + uptoBulkAll spare + 1
  | .agg parts => uptoBulkAll parts + 1
  | .iface _ d => uptoBulk d + 1
  | .map entries => uptoBulkEntries entries + 1
  | .held _ => 1
def uptoBulkAll {H : Type} : List (DataW H) → Nat
  | [] => 0
  | d :: r => uptoBulk d + uptoBulkAll r
def uptoBulkEntries {H : Type} : List (Lit × DataW H) → Nat
  | [] => 0
  | x :: r => uptoBulkEntry x + uptoBulkEntries r
def uptoBulkEntry {H : Type} : Lit × DataW H → Nat
  | (.string bytes, d) => bytes.length + uptoBulk d + 1
  | (_, d) => uptoBulk d + 1
 end
def uptoSmall : (H : Type) → List (DataW H) → Bool := fun _ ds => decide (uptoBulkAll ds ≤ 1048576)
def OpenSpec.upto (s : _root_.Go.ChangeSpec) : _root_.Go.OpenSpec := { _root_.Go.OpenSpec.ofChange s with cond := some uptoSmall }

/-- 'berthinglaw.Names', WHERE WHAT IT READS IS OF BULK AT MOST 1048576: true; the input reads as it did. -/
def namesUptoRow : OpenClaim := { program := "ytifmdkcpbajdcaa", sum := "2428980f96956dc5b70604ce33f66d4be4c06bab47336a5c0d6f07ffe397a8b6", func := "berthing/berthinglaw.Names", spec := "names", apart := false, narrowed := true }
def NamesUptoSaid : Prop := namesUptoRow.holds Try.pinned (OpenSpec.upto namesSpec)

/-- 'berthinglaw.SpanTells', WHERE WHAT IT READS IS OF BULK AT MOST 1048576: true; the input reads as it did. -/
def spanTellsUptoRow : OpenClaim := { program := "ytifmdkcpbajdcaa", sum := "2428980f96956dc5b70604ce33f66d4be4c06bab47336a5c0d6f07ffe397a8b6", func := "berthing/berthinglaw.SpanTells", spec := "spanTells", inPlace := ["slices.overlaps[berthing/api.Step]"], unfollowed := true, recurses := true, apart := false, narrowed := true }
def SpanTellsUptoSaid : Prop := spanTellsUptoRow.holds Try.pinned (OpenSpec.upto spanTellsSpec)

/-- 'berthingkeep.SpanFirst', WHERE WHAT IT READS IS OF BULK AT MOST 1048576: true; the input reads as it did. -/
def spanFirstUptoRow : OpenClaim := { program := "ytifmdkcpbajdcaa", sum := "2428980f96956dc5b70604ce33f66d4be4c06bab47336a5c0d6f07ffe397a8b6", func := "berthing/berthingkeep.SpanFirst", spec := "spanFirst", inPlace := ["slices.overlaps[berthing/api.Step]"], unfollowed := true, recurses := true, apart := false, narrowed := true }
def SpanFirstUptoSaid : Prop := spanFirstUptoRow.holds Try.pinned (OpenSpec.upto spanFirstSpec)

/-- 'berthinglaw.SpanTakes', WHERE WHAT IT READS IS OF BULK AT MOST 1048576: true; the input reads as it did. -/
def spanTakesUptoRow : OpenClaim := { program := "ytifmdkcpbajdcaa", sum := "2428980f96956dc5b70604ce33f66d4be4c06bab47336a5c0d6f07ffe397a8b6", func := "berthing/berthinglaw.SpanTakes", spec := "spanTakes", inPlace := ["slices.overlaps[berthing/api.Step]"], unfollowed := true, recurses := true, apart := false, narrowed := true }
def SpanTakesUptoSaid : Prop := spanTakesUptoRow.holds Try.pinned (OpenSpec.upto spanTakesSpec)

/-- 'berthingkeep.SpanBack', WHERE WHAT IT READS IS OF BULK AT MOST 1048576: true; the input reads as it did. -/
def spanBackUptoRow : OpenClaim := { program := "ytifmdkcpbajdcaa", sum := "2428980f96956dc5b70604ce33f66d4be4c06bab47336a5c0d6f07ffe397a8b6", func := "berthing/berthingkeep.SpanBack", spec := "spanBack", inPlace := ["slices.overlaps[berthing/api.Step]"], unfollowed := true, recurses := true, apart := false, narrowed := true }
def SpanBackUptoSaid : Prop := spanBackUptoRow.holds Try.pinned (OpenSpec.upto spanBackSpec)

/-- 'berthinglaw.PortTells', WHERE WHAT IT READS IS OF BULK AT MOST 1048576: true; the input reads as it did. -/
def portTellsUptoRow : OpenClaim := { program := "ytifmdkcpbajdcaa", sum := "2428980f96956dc5b70604ce33f66d4be4c06bab47336a5c0d6f07ffe397a8b6", func := "berthing/berthinglaw.PortTells", spec := "portTells", inPlace := ["slices.overlaps[berthing/api.Step]"], unfollowed := true, recurses := true, apart := false, narrowed := true }
def PortTellsUptoSaid : Prop := portTellsUptoRow.holds Try.pinned (OpenSpec.upto portTellsSpec)

/-- 'berthingkeep.PortRoom', WHERE WHAT IT READS IS OF BULK AT MOST 1048576: true; the input reads as it did. -/
def portRoomUptoRow : OpenClaim := { program := "ytifmdkcpbajdcaa", sum := "2428980f96956dc5b70604ce33f66d4be4c06bab47336a5c0d6f07ffe397a8b6", func := "berthing/berthingkeep.PortRoom", spec := "portRoom", inPlace := ["slices.overlaps[berthing/api.Step]"], unfollowed := true, recurses := true, apart := false, narrowed := true }
def PortRoomUptoSaid : Prop := portRoomUptoRow.holds Try.pinned (OpenSpec.upto portRoomSpec)

/-- 'berthingkeep.PortRanks', WHERE WHAT IT READS IS OF BULK AT MOST 1048576: true; the input reads as it did. -/
def portRanksUptoRow : OpenClaim := { program := "ytifmdkcpbajdcaa", sum := "2428980f96956dc5b70604ce33f66d4be4c06bab47336a5c0d6f07ffe397a8b6", func := "berthing/berthingkeep.PortRanks", spec := "portRanks", inPlace := ["slices.overlaps[berthing/api.Step]"], unfollowed := true, recurses := true, apart := false, narrowed := true }
def PortRanksUptoSaid : Prop := portRanksUptoRow.holds Try.pinned (OpenSpec.upto portRanksSpec)

/-- 'berthingkeep.PortFirst', WHERE WHAT IT READS IS OF BULK AT MOST 1048576: true; the input reads as it did. -/
def portFirstUptoRow : OpenClaim := { program := "ytifmdkcpbajdcaa", sum := "2428980f96956dc5b70604ce33f66d4be4c06bab47336a5c0d6f07ffe397a8b6", func := "berthing/berthingkeep.PortFirst", spec := "portFirst", inPlace := ["slices.overlaps[berthing/api.Step]"], unfollowed := true, recurses := true, apart := false, narrowed := true }
def PortFirstUptoSaid : Prop := portFirstUptoRow.holds Try.pinned (OpenSpec.upto portFirstSpec)

end Rows
end Go.Proofs.Ytifmdkcpbajdcaa
