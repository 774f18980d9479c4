/- Words: a variable that holds sixteen values (a port's), whatever they are. -/
import Derived.Test.YtifmdkcpbajdcabPortMem
namespace Go.Proofs.Ytifmdkcpbajdcab
open Go.RowKit Go.Proofs Plain

/-- The block g holds these values: a port's variable. -/
def BoxAt (w : World) (g : Nat) (vs : Array Value) : Prop := w.heap[g]? = some (.cells vs 27 (0, 0))

section
variable {w w' : World} {g : Nat} {vs : Array Value}
theorem BoxAt.lt (h : BoxAt w g vs) : g < w.heap.size := (Array.getElem?_eq_some_iff.1 h).1
theorem BoxAt.new (w : World) (vs : Array Value) : BoxAt (w.alloc (.cells vs 27)) w.heap.size vs := heap_alloc_new w _
theorem BoxAt.below {n : Nat} (h : BoxAt w g vs) (hb : Below n w w') (hn : g < n) : BoxAt w' g vs := (hb.block g hn).trans h
theorem BoxAt.alloc (h : BoxAt w g vs) (o : Obj) : BoxAt (w.alloc o) g vs := (Below.heap_alloc w o g h.lt).trans h
theorem BoxAt.cell (h : BoxAt w g vs) (j : Nat) : w.cell? ⟨g, j, none⟩ = vs[j]? := by rw [cell_of_row w g j _ _ _ h]
end

theorem BoxAt.all {w : World} {g : Nat} {v0 v1 v2 v3 v4 v5 v6 v7 v8 v9 v10 v11 v12 v13 v14 v15 : Value} (h : BoxAt w g #[v0, v1, v2, v3, v4, v5, v6, v7, v8, v9, v10, v11, v12, v13, v14, v15]) : w.cell? ⟨g, 0, none⟩ = some v0 ∧ w.cell? ⟨g, 1, none⟩ = some v1 ∧ w.cell? ⟨g, 2, none⟩ = some v2 ∧ w.cell? ⟨g, 3, none⟩ = some v3 ∧ w.cell? ⟨g, 4, none⟩ = some v4 ∧ w.cell? ⟨g, 5, none⟩ = some v5 ∧ w.cell? ⟨g, 6, none⟩ = some v6 ∧ w.cell? ⟨g, 7, none⟩ = some v7 ∧ w.cell? ⟨g, 8, none⟩ = some v8 ∧ w.cell? ⟨g, 9, none⟩ = some v9 ∧ w.cell? ⟨g, 10, none⟩ = some v10 ∧ w.cell? ⟨g, 11, none⟩ = some v11 ∧ w.cell? ⟨g, 12, none⟩ = some v12 ∧ w.cell? ⟨g, 13, none⟩ = some v13 ∧ w.cell? ⟨g, 14, none⟩ = some v14 ∧ w.cell? ⟨g, 15, none⟩ = some v15 :=
  ⟨h.cell 0, h.cell 1, h.cell 2, h.cell 3, h.cell 4, h.cell 5, h.cell 6, h.cell 7, h.cell 8, h.cell 9, h.cell 10, h.cell 11, h.cell 12, h.cell 13, h.cell 14, h.cell 15⟩

theorem port_vs (p : Port) (A : Option Addr) (c : Nat) : ∃ v0 v1 v2 v3 v4 v5 v6 v7 v8 v9 v10 v11 v12 v13 v14 v15 : Value, portA p A c = #[v0, v1, v2, v3, v4, v5, v6, v7, v8, v9, v10, v11, v12, v13, v14, v15] := ⟨_, _, _, _, _, _, _, _, _, _, _, _, _, _, _, _, rfl⟩

section
variable {ops : Array Oper} {rest : List Oper} {o : Oper} {a : Act} {w : World} {Q : Exit → Act → World → Prop}
theorem wpList_load_box {x : Operand} {g : Nat} {vs : Array Value} (hg : o.guard = none) (ho : o.op = .load 27 x)
    (hx : a.eval x = .pointer (some ⟨g, 0, none⟩)) (hf : BoxAt w g vs) (hs : vs.size = 16)
    (h : wpList Try.prog ops Q rest (a.put o.dst (.agg vs)) w) : wpList Try.prog ops Q (o :: rest) a w :=
  wpList_load_row hg _ x ho g hx _ _ _ _ hf Try.underlying27 rfl (by rw [hs]; exact port_size) h
end
end Go.Proofs.Ytifmdkcpbajdcab
