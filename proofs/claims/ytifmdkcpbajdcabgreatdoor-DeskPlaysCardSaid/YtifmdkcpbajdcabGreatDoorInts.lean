/- Words for memory: rows of integers in a block of their own. -/
import Derived.Test.YtifmdkcpbajdcabGreatDoorSpanA
import Derived.Test.YtifmdkcpbajdcabGreatDoorPortA
import Derived.Test.YtifmdkcpbajdcabGreatDoorSpanB
import Derived.Laws.MakeOwn
set_option linter.unusedVariables false
set_option linter.unusedSimpArgs false
namespace Go.Proofs.YtifmdkcpbajdcabGreatDoor
open Go.RowKit Go.Proofs Plain
def Ints (w : World) (g : Nat) (l : List Int) : Prop := w.heap[g]? = some (.cells (arr l) 3 (0, 0))
section
variable {w w' : World} {g : Nat} {l : List Int}
theorem Ints.lt (h : Ints w g l) : g < w.heap.size := (Array.getElem?_eq_some_iff.1 h).1
theorem Ints.cell (h : Ints w g l) (j : Nat) (hj : j < l.length) : w.cell? ⟨g, j, none⟩ = some (.int .i64 (l.getD j 0)) := by
  rw [cell_of_row w g j _ _ _ h]; exact arr_get l j hj
theorem Ints.frozen (h : Ints w g l) (j : Nat) : w.frozen? ⟨g, j, none⟩ = false := by
  unfold Ints at h; simp [World.frozen?, h]
theorem Ints.new (w : World) (l : List Int) : Ints (w.alloc (.cells (arr l) 3)) w.heap.size l := heap_alloc_new w _
theorem Ints.alloc (h : Ints w g l) (o : Obj) : Ints (w.alloc o) g l := (Below.heap_alloc w o g h.lt).trans h
theorem Ints.drewN (h : Ints w g l) (n : Nat) : Ints (w.drewN n) g l := h
theorem Ints.below (h : Ints w g l) {n : Nat} (hb : Below n w w') (hn : g < n) : Ints w' g l := (hb.block g hn).trans h
theorem Ints.set (h : Ints w g l) (j : Nat) (v : Int) : Ints (w.setCell ⟨g, j, none⟩ (.int .i64 v)) g (l.set j v) := by
  unfold Ints
  rw [setCell_eq_setRow w g j _ _ _ _ h, arr_set]
  exact setRow_heap w g _ _ _ _ h
theorem Ints.beside (h : Ints w g l) (p : Addr) (v : Value) (hp : p.block ≠ g) : Ints (w.setCell p v) g l := (Below.heap_setCell w p v g (fun e => hp e.symm)).trans h
theorem arr_list (l : List Int) : (arr l).toList = l.map (Value.int .i64) := by simp [arr]
theorem Ints.sl (h : Ints w g l) : Sl w 1 (some ⟨g, 0, none⟩) l.length (l.map (Value.int .i64)) :=
  ⟨by simp, fun hn => ⟨g, 0, rfl, fun j hj => by
    rw [Nat.zero_add, cell_of_row w g j _ _ _ h, <- arr_list]; simp⟩⟩
end
theorem ints_at {w : World} {A : Option Addr} {l : List Int} (h : Sl w 1 A l.length (l.map (Value.int .i64))) (hl : 0 < l.length) :
    ∃ b off, A = some ⟨b, off, none⟩ /\ b < w.heap.size /\ ∀ j, j < l.length -> w.cell? ⟨b, off + j, none⟩ = some (.int .i64 (l.getD j 0)) := by
  obtain ⟨b, off, e, hc⟩ := h.2 (by omega)
  obtain ⟨b', off', e', hlt⟩ := h.lt (by omega)
  rw [e] at e'
  injection e' with e'
  injection e' with e1 e2
  subst e1
  refine ⟨b, off, e, hlt, fun j hj => ?_⟩
  rw [hc j (by omega), List.getElem?_map, List.getElem?_eq_getElem hj, List.getD_eq_getElem?_getD, List.getElem?_eq_getElem hj]; rfl
def RetInts (l : List Int) (w : World) (e : Ending) (w' : World) : Prop :=
  ∃ A c, e = .returned (.slice A l.length c) /\ Sl w' 1 A l.length (l.map (Value.int .i64)) /\ Below w.heap.size w w' /\ Fr w.heap.size A
section
variable {ops : Array Oper} {rest : List Oper} {o : Oper} {a : Act} {w : World} {Q : Exit -> Act -> World -> Prop}
theorem made_ints (n : Nat) : madeCells (Value.int .i64 0).cells (n * 1) = arr (List.replicate n 0) := by
  apply Array.ext
  · simp [arr, madeCells]
  · intro i h1 h2
    have h0 : i % 1 = 0 := Nat.mod_one i
    simp [arr, madeCells, Value.cells, h0]
theorem wpList_make_ints {x y : Operand} {n : Nat} (hg : o.guard = none) (ho : o.op = .makeSlice 38 x y) (hx : a.eval x = .int .i64 n) (hy : a.eval y = .int .i64 n) (hn : n <= 100000)
    (h : wpList Tryz.prog ops Q rest (a.put o.dst (.slice (some ⟨w.heap.size, 0, none⟩) n n)) (w.alloc (.cells (arr (List.replicate n 0)) 3))) : wpList Tryz.prog ops Q (o :: rest) a w := by
  refine wpList_plain hg fun K hK => ?_
  obtain ⟨i0, hi0, hz0, hzs, hzb⟩ := info_parts int_info
  have hr := run_make (P := Tryz.prog) w 38 3 i0 _ Tryz.underlying38 hi0 hz0 .i64 .i64 n n (by omega) (Int.le_refl _) (by rw [hzb]; omega) (by omega)
  rw [Int.toNat_natCast, hzs, made_ints] at hr
  unfold Oper.wp execOp
  simp only [ho, hx, hy, Sem.run_bind, hr, Sem.run_pure, Result.andThen_ok]
  exact hK _ _ h
end
end Go.Proofs.YtifmdkcpbajdcabGreatDoor
