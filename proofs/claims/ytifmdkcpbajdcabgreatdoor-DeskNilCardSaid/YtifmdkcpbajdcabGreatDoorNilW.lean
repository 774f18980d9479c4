/- Walks: a desk that is nil answers as it should. -/
import Derived.Test.YtifmdkcpbajdcabGreatDoorChecked
import Derived.WalkKit
import Derived.RowKit
import Derived.Below
import Derived.Laws.Rows
import Derived.Laws.Tables
import Derived.Laws.StructEq
import Derived.Lib.Hide
namespace Go.Proofs.YtifmdkcpbajdcabGreatDoor
open Go.RowKit Go.Proofs

theorem reply_size : (Tryz.prog.info? 29).map (·.size) = some 2 := by kernel_rfl
theorem nport_size : (Tryz.prog.info? 36).map (·.size) = some 16 := by kernel_rfl

theorem below_go0 {a w w' : World} (h : Below a.heap.size a w) (h2 : Below w.heap.size w w') : Below a.heap.size a w' := h.trans (h2.mono h.size)

theorem row_two {w : World} {g : Nat} {a b x y : Value} {T : TypeId} (h : w.heap[g]? = some (.cells #[a, b] T (0, 0))) : ((w.setCell ⟨g, 0, none⟩ x).setCell ⟨g, 1, none⟩ y).heap[g]? = some (.cells #[x, y] T (0, 0)) := by
  have h1 : (w.setCell ⟨g, 0, none⟩ x).heap[g]? = some (.cells #[x, b] T (0, 0)) := by
    rw [setCell_eq_setRow w g 0 #[a, b] T (0, 0) x h]; exact setRow_heap w g _ _ _ _ h
  rw [setCell_eq_setRow _ g 1 #[x, b] T (0, 0) y h1]; exact setRow_heap _ g _ _ _ _ h1

set_option maxRecDepth 100000 in
set_option maxHeartbeats 4000000 in
theorem no_any (e : Int) (w : World) : Calls Tryz.prog 26 #[.int .i64 e] w fun r w' => r = .returned (.agg #[.int .i64 e, .int .i64 0]) ∧ Below w.heap.size w w' := by
  go_enter Tryz.func26, Tryz.ntmps26
  go_wp2
  refine bodyPost_ret (results_cell_row rfl _ _ w.heap.size 29 #[.int .i64 e, .int .i64 0] (0, 0) _ rfl (heap_alloc_new w _) Tryz.underlying29 rfl reply_size) rfl ?_
  exact ⟨rfl, (Below.refl _ _).alloc (Nat.le_refl _) _⟩

set_option maxRecDepth 100000 in
set_option maxHeartbeats 4000000 in
theorem tellNil_any (s : ByteArray) (w : World) : Calls Tryz.prog 11 #[.pointer none, .string s] w fun r w' => r = .returned (.agg #[.int .i64 3, .int .i64 0]) ∧ Below w.heap.size w w' := by
  go_enter Tryz.func11, Tryz.ntmps11
  have hB0 : Below w.heap.size w (w.alloc (.cells #[.int .i64 0, .int .i64 0] 29)) := (Below.refl _ _).alloc (Nat.le_refl _) _
  have hR0 := heap_alloc_new w (.cells #[.int .i64 0, .int .i64 0] 29)
  go_wp2_with (go_at_call 26; refine (no_any 3 _).mono ?_; rintro e w1 ⟨rfl, hb1⟩; have hR1 := (hb1.block w.heap.size (by simp)).trans hR0; have c0 : w1.cell? ⟨w.heap.size, 0, none⟩ = some (.int .i64 0) := cell_of_row _ _ 0 _ _ _ hR1; have c1 : w1.cell? ⟨w.heap.size, 1, none⟩ = some (.int .i64 0) := cell_of_row _ _ 1 _ _ _ hR1; have f0 : ∀ j, w1.frozen? ⟨w.heap.size, j, none⟩ = false := fun j => by simp [World.frozen?, hR1])
  refine bodyPost_ret (results_cell_row rfl _ _ w.heap.size 29 #[.int .i64 3, .int .i64 0] (0, 0) _ rfl (row_two hR1) Tryz.underlying29 rfl reply_size) rfl ?_
  exact ⟨rfl, ((below_go0 hB0 hb1).setCell (Nat.le_refl _) _).setCell (Nat.le_refl _) _⟩

def zeroA : Array Value := #[.int .i64 0, .slice none 0 0, .int .i64 0, .int .i64 0, .int .i64 0, .int .i64 0, .int .i64 0, .int .i64 0, .int .i64 0, .int .i64 0, .int .i64 0, .int .i64 0, .int .i64 0, .int .i64 0, .int .i64 0, .int .i64 0]

set_option maxRecDepth 100000 in
set_option maxHeartbeats 4000000 in
theorem portNil_any (w : World) : Calls Tryz.prog 12 #[.pointer none] w fun r w' => r = .returned (.agg zeroA) ∧ Below w.heap.size w w' := by
  go_enter Tryz.func12, Tryz.ntmps12
  go_wp2
  refine bodyPost_ret (results_cell_row rfl _ _ w.heap.size 36 zeroA (0, 0) _ rfl (heap_alloc_new w _) Tryz.underlying36 rfl nport_size) rfl ?_
  exact ⟨rfl, (Below.refl _ _).alloc (Nat.le_refl _) _⟩

set_option maxRecDepth 100000 in
set_option maxHeartbeats 4000000 in
theorem planNil_any (w : World) : Calls Tryz.prog 13 #[.pointer none] w fun r w' => r = .returned (.slice none 0 0) ∧ Below w.heap.size w w' := by
  go_enter Tryz.func13, Tryz.ntmps13
  go_wp2
  go_ret
  exact ⟨rfl, Below.refl _ _⟩

theorem eq_zeroK (w : World) : (Op.equalIn 10000 34 (.agg #[.int .i64 0, .int .i64 0, .int .i64 0, .int .i64 0, .int .i64 0, .int .i64 0, .int .i64 0, .int .i64 0, .int .i64 0, .int .i64 0, .int .i64 0, .int .i64 0]) (.agg #[.int .i64 0, .int .i64 0, .int .i64 0, .int .i64 0, .int .i64 0, .int .i64 0, .int .i64 0, .int .i64 0, .int .i64 0, .int .i64 0, .int .i64 0, .int .i64 0])).run Tryz.prog w = .ok true w := by kernel_rfl
attribute [local go_sem] eq_zeroK

set_option maxRecDepth 100000 in
set_option maxHeartbeats 4000000 in
theorem sameZero_any (w : World) : Calls Tryz.prog 17 #[.agg zeroA, .agg zeroA] w fun r w' => r = .returned (.bool true) ∧ Below w.heap.size w w' := by
  unfold zeroA
  go_enter Tryz.func17, Tryz.ntmps17
  go_wp2_with fail
  go_loopw [44] (fun i wr => i = .int .i64 0 ∧ Below w.heap.size w wr) (fun _ _ => 0)
  case atStart => exact ⟨rfl, ((Below.refl _ _).alloc (Nat.le_refl _) _).alloc (by simp) _⟩
  case round =>
    obtain ⟨rfl, hB⟩ := hrel
    go_wp2_with fail
    go_ret
    exact ⟨rfl, hB⟩

set_option maxRecDepth 100000 in
set_option maxHeartbeats 4000000 in
theorem deskNil_walk (s : ByteArray) (w : World) :
    Calls Tryz.prog 4 #[.string s] w fun e w' => e = .returned (.bool true) ∧ Below w.heap.size w w' := by
  have HS := Lib.hid sameZero_any
  have HP := Lib.hid portNil_any
  have hz : (Value.agg zeroA) = .agg #[.int .i64 0, .slice none 0 0, .int .i64 0, .int .i64 0, .int .i64 0, .int .i64 0, .int .i64 0, .int .i64 0, .int .i64 0, .int .i64 0, .int .i64 0, .int .i64 0, .int .i64 0, .int .i64 0, .int .i64 0, .int .i64 0] := rfl
  go_enter Tryz.func4, Tryz.ntmps4
  go_wp2_with (first
    | (go_at_call 11; refine (tellNil_any s _).mono ?_; rintro e w1 ⟨rfl, hb1⟩)
    | (go_at_call 12; refine (HP.out _).mono ?_; rintro e w2 ⟨rfl, hb2⟩)
    | (go_at_call 17; refine (HS.out _).mono ?_; rintro e w3 ⟨rfl, hb3⟩)
    | (go_at_call 13; refine (planNil_any _).mono ?_; rintro e w4 ⟨rfl, hb4⟩))
  go_ret
  exact ⟨rfl, below_go0 (below_go0 (below_go0 hb1 hb2) hb3) hb4⟩
end Go.Proofs.YtifmdkcpbajdcabGreatDoor
