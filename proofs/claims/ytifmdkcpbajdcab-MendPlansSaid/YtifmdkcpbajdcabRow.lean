/- Laws: rows of integers; a world in which one block alone has turned. -/
import Derived.Test.YtifmdkcpbajdcabSpanW1
import Derived.Laws.ResultCell
namespace Go.Proofs.Ytifmdkcpbajdcab
open Go.RowKit Go.Proofs Plain

/-- The cells of a list of integers. -/
def arr (fs : List Int) : Array Value := (fs.map (Value.int .i64)).toArray
theorem arr_size (fs : List Int) : (arr fs).size = fs.length := by simp [arr]
theorem arr_get (fs : List Int) (j : Nat) (h : j < fs.length) : (arr fs)[j]? = some (.int .i64 (fs.getD j 0)) := by
  simp [arr, List.getD_eq_getElem?_getD, List.getElem?_eq_getElem h]
theorem arr_set (fs : List Int) (j : Nat) (v : Int) : (arr fs).setIfInBounds j (.int .i64 v) = arr (fs.set j v) := by
  apply Array.ext'
  simp [arr, List.map_set]
theorem arr_one (fs : List Int) : (arr fs).all (·.oneCell') = true := by
  rw [Array.all_eq_true_iff_forall_mem]
  intro v hv
  simp only [arr, List.mem_toArray, List.mem_map] at hv
  obtain ⟨_, _, rfl⟩ := hv
  rfl

section
variable {w : World}
theorem setRow_below {n : Nat} {a : World} (h : Below n a w) (k : Nat) (cs : Array Value) (hk : n ≤ k) : Below n a (w.setRow k cs) :=
  h.trans ⟨rfl, rfl, rfl, by simp [World.setRow], fun i hi => by unfold World.setRow; simp only [Array.getElem?_modify]; rw [if_neg (by omega)]⟩
theorem setRow_size (w : World) (k : Nat) (cs : Array Value) : (w.setRow k cs).heap.size = w.heap.size := by simp [World.setRow]
end

/-- Of all blocks g alone has turned. -/
structure OneRow (g : Nat) (w w' : World) : Prop where
  os : w'.os = w.os
  tape : w'.tape = w.tape
  output : w'.output = w.output
  size : w'.heap.size = w.heap.size
  block : ∀ k, k ≠ g → w'.heap[k]? = w.heap[k]?

theorem OneRow.of_row (w : World) (g : Nat) (cs : Array Value) : OneRow g w (w.setRow g cs) :=
  ⟨rfl, rfl, rfl, setRow_size w g cs, fun k hk => by unfold World.setRow; simp only [Array.getElem?_modify]; rw [if_neg (fun e => hk e.symm)]⟩
theorem OneRow.of_cell (w : World) (p : Addr) (v : Value) : OneRow p.block w (w.setCell p v) :=
  ⟨rfl, rfl, rfl, by simp [World.setCell], fun k hk => Below.heap_setCell w p v k hk⟩

section
variable {g k n : Nat} {w w' a : World} {fs : List Int}
theorem OneRow.below (h : OneRow g w w') (hn : n ≤ g) : Below n w w' := ⟨h.os, h.tape, h.output, Nat.le_of_eq h.size.symm, fun i hi => h.block i (by omega)⟩
theorem OneRow.cell (h : OneRow g w w') (b o : Nat) (hk : b ≠ g) : w'.cell? ⟨b, o, none⟩ = w.cell? ⟨b, o, none⟩ := World.cell?_of_block (w := w) (h.block b hk)
theorem OneRow.frozen (h : OneRow g w w') (b o : Nat) (hk : b ≠ g) : w'.frozen? ⟨b, o, none⟩ = w.frozen? ⟨b, o, none⟩ := World.frozen?_of_block (w := w) (h.block b hk)
end
end Go.Proofs.Ytifmdkcpbajdcab
