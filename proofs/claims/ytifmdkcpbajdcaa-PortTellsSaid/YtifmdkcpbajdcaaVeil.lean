/- Laws: loads and stores of arrays of 300 integers that a drawn region does not look into. -/
import Derived.Test.YtifmdkcpbajdcaaArr
namespace Go.Proofs.Ytifmdkcpbajdcaa
open Go.RowKit Go.Proofs Plain

/-- An operation that is not to be looked into. -/
def veilOp (o : Op) : Op := o
def veilLoad (ty : TypeId) (v : Value) : Sem Next := do pure (.value (← Instr.loadAt ty v))
def veilStore (ty : TypeId) (v x : Value) : Sem Next := do Instr.storeAt ty v x; pure .skip

theorem execOp_veilLoad (r : Operand → Value) (dst : Option Tmp) (ty : TypeId) (x : Operand) (type : TypeId) (pos : String) (after : Array Edge) (guard : Option (Nat × Bool)) :
    execOp r { dst, op := veilOp (.load ty x), type, pos, after, guard } = veilLoad ty (r x) := rfl
theorem execOp_veilStore (r : Operand → Value) (dst : Option Tmp) (ty : TypeId) (x y : Operand) (type : TypeId) (pos : String) (after : Array Edge) (guard : Option (Nat × Bool)) :
    execOp r { dst, op := veilOp (.store ty x y), type, pos, after, guard } = veilStore ty (r x) (r y) := rfl

theorem arr_info : (Try.prog.info? 25).map (·.size) = some 300 := by
  have := congrArg (Option.map Prod.fst) arr_zero
  rw [Option.map_map] at this
  exact this

theorem run_veilLoad {w : World} {g : Nat} {fs : List Int} (h : Arr w g fs) :
    (veilLoad 25 (.pointer (some ⟨g, 0, none⟩))).run Try.prog w = .ok (.value (.agg (arr fs))) w := by
  unfold veilLoad
  simp only [Instr.loadAt, Instr.sureAddr, Sem.run_bind, Sem.run_pure, Result.andThen_ok, run_loadVar_row w g 25 25 (arr fs) (0, 0) (.array 300 3) h.at_ (by kernel_rfl) rfl (by rw [arr_info, arr_size, h.len])]
theorem run_veilStore {w : World} {g : Nat} {fs gs : List Int} (h : Arr w g fs) (hl : gs.length = 300) :
    (veilStore 25 (.pointer (some ⟨g, 0, none⟩)) (.agg (arr gs))).run Try.prog w = .ok .skip (w.setRow g (arr gs)) := by
  unfold veilStore
  simp only [Instr.storeAt, Instr.sureAddr, Sem.run_bind, Sem.run_pure, Result.andThen_ok, run_storeVar_row w g 25 25 (arr fs) (arr gs) h.at_ (by rw [arr_info, arr_size, hl]) (by rw [arr_size, arr_size, h.len, hl]) (arr_one gs)]
end Go.Proofs.Ytifmdkcpbajdcaa
