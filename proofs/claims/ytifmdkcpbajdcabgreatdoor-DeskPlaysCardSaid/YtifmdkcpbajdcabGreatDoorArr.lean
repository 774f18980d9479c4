/- Laws: variables that hold an array of 300 integers. -/
import Derived.Test.YtifmdkcpbajdcabGreatDoorSpanA
import Derived.Laws.ResultCell
set_option linter.unusedVariables false
set_option linter.unusedSimpArgs false
namespace Go.Proofs.YtifmdkcpbajdcabGreatDoor
open Go.RowKit Go.Proofs Plain
def zeros : List Int := List.replicate 300 0
theorem zeros_len : zeros.length = 300 := List.length_replicate
theorem arr_zero : (Tryz.prog.info? 91).map (fun i => (i.size, i.zero.map (·.cells))) = some (300, some (arr zeros)) := by kernel_rfl
structure Arr (w : World) (g : Nat) (fs : List Int) : Prop where
  len : fs.length = 300
  at_ : w.heap[g]? = some (.cells (arr fs) 91 (0, 0))
section
variable {w w' : World} {g : Nat} {fs : List Int}
theorem Arr.lt (h : Arr w g fs) : g < w.heap.size := (Array.getElem?_eq_some_iff.1 h.at_).1
theorem Arr.cell (h : Arr w g fs) (j : Nat) (hj : j < 300) : w.cell? ⟨g, j, none⟩ = some (.int .i64 (fs.getD j 0)) := by
  rw [cell_of_row w g j _ _ _ h.at_]; exact arr_get fs j (by rw [h.len]; exact hj)
theorem Arr.frozen (h : Arr w g fs) (j : Nat) : w.frozen? ⟨g, j, none⟩ = false := by
  simp [World.frozen?, h.at_]
theorem Arr.new (w : World) (fs : List Int) (h : fs.length = 300) : Arr (w.alloc (.cells (arr fs) 91)) w.heap.size fs := ⟨h, heap_alloc_new w _⟩
theorem Arr.alloc (h : Arr w g fs) (o : Obj) : Arr (w.alloc o) g fs := ⟨h.len, (Below.heap_alloc w o g h.lt).trans h.at_⟩
theorem Arr.drewN (h : Arr w g fs) (n : Nat) : Arr (w.drewN n) g fs := ⟨h.len, h.at_⟩
theorem Arr.below (h : Arr w g fs) {n : Nat} (hb : Below n w w') (hn : g < n) : Arr w' g fs := ⟨h.len, (hb.block g hn).trans h.at_⟩
theorem Arr.set (h : Arr w g fs) (j : Nat) (v : Int) : Arr (w.setCell ⟨g, j, none⟩ (.int .i64 v)) g (fs.set j v) := by
  refine ⟨by simpa using h.len, ?_⟩
  rw [setCell_eq_setRow w g j _ _ _ _ h.at_, arr_set]
  exact setRow_heap w g _ _ _ _ h.at_
theorem Arr.beside (h : Arr w g fs) (p : Addr) (v : Value) (hp : p.block ≠ g) : Arr (w.setCell p v) g fs := ⟨h.len, (Below.heap_setCell w p v g (fun e => hp e.symm)).trans h.at_⟩
theorem Arr.row (h : Arr w g fs) (gs : List Int) (hl : gs.length = 300) : Arr (w.setRow g (arr gs)) g gs := ⟨hl, setRow_heap w g _ _ _ _ h.at_⟩
end
section
variable {g k n : Nat} {w w' a : World} {fs : List Int}
theorem OneRow.arr (h : OneRow g w w') (hf : Arr w k fs) (hk : k ≠ g) : Arr w' k fs := ⟨hf.len, (h.block k hk).trans hf.at_⟩
end
section
variable {ops : Array Oper} {rest : List Oper} {o : Oper} {a : Act} {w : World} {Q : Exit -> Act -> World -> Prop}
theorem wAA (hg : o.guard = none) (ho : o.op = .alloc 91)
    (h : ∀ w' g, w.heap.size <= g -> g < w'.heap.size -> Arr w' g zeros -> Below w.heap.size w w' -> wpList Tryz.prog ops Q rest (a.put o.dst (.pointer (some ⟨g, 0, none⟩))) w') : wpList Tryz.prog ops Q (o :: rest) a w := by
  have h := h (w.alloc (.cells (arr zeros) 91)) w.heap.size (Nat.le_refl _) (by simp) (Arr.new w zeros zeros_len) ((Below.refl _ _).alloc (Nat.le_refl _) _)
  refine wpList_plain hg fun K hK => ?_
  unfold Oper.wp execOp
  have hz := arr_zero
  cases hi : Tryz.prog.info? 91 with
  | none => rw [hi] at hz; simp at hz
  | some i =>
    rw [hi] at hz
    simp only [Option.map_some, Option.some.injEq, Prod.mk.injEq] at hz
    cases hiz : i.zero with
    | none => rw [hiz] at hz; simp at hz
    | some z =>
      rw [hiz] at hz
      simp only [Option.map_some, Option.some.injEq] at hz
      have h0 : (zeroValue 91).run Tryz.prog w = .ok z w := by simp [zeroValue, typeInfo, hi, hiz, Sem.run_bind]
      simp only [ho, Instr.alloc, Sem.run_bind, newVar, newRow, run_newObj_alloc, Sem.run_pure, Result.andThen_ok, hz.2, h0]
      exact hK _ _ h
theorem wpList_load_arr {x : Operand} {g : Nat} {fs : List Int} (hg : o.guard = none) (ho : o.op = .load 91 x)
    (hx : a.eval x = .pointer (some ⟨g, 0, none⟩)) (hf : Arr w g fs)
    (h : wpList Tryz.prog ops Q rest (a.put o.dst (.agg (arr fs))) w) : wpList Tryz.prog ops Q (o :: rest) a w :=
  wpList_load_row hg _ x ho g hx _ _ _ (.array 300 3) hf.at_ (by kernel_rfl) rfl (by
    have := congrArg (Option.map Prod.fst) arr_zero
    rw [Option.map_map] at this
    rw [arr_size, hf.len]
    exact this) h
theorem wSA {x y : Operand} {g : Nat} {fs gs : List Int} (hg : o.guard = none) (ho : o.op = .store 91 x y)
    (hx : a.eval x = .pointer (some ⟨g, 0, none⟩)) (hy : a.eval y = .agg (arr gs)) (hf : Arr w g fs) (hl : gs.length = 300)
    (h : ∀ w', Arr w' g gs -> OneRow g w w' -> wpList Tryz.prog ops Q rest (a.put o.dst undef) w') : wpList Tryz.prog ops Q (o :: rest) a w :=
  have h := h _ (hf.row gs hl) (OneRow.of_row w g _)
  wpList_store_row hg _ x y ho g _ hx hy _ _ hf.at_ (by
    have := congrArg (Option.map Prod.fst) arr_zero
    rw [Option.map_map] at this
    rw [arr_size, hl]
    exact this) (by rw [arr_size, arr_size, hf.len, hl]) (arr_one gs) h
theorem wpList_box_arr {x : Operand} {fs : List Int} (hg : o.guard = none) (ho : o.op = .box 91 x) (hx : a.eval x = .agg (arr fs)) (hl : fs.length = 300)
    (h : ∀ w' g, w.heap.size <= g -> g < w'.heap.size -> Arr w' g fs -> Below w.heap.size w w' -> wpList Tryz.prog ops Q rest (a.put o.dst (.pointer (some ⟨g, 0, none⟩))) w') : wpList Tryz.prog ops Q (o :: rest) a w := by
  have h := h (w.alloc (.cells (arr fs) 91)) w.heap.size (Nat.le_refl _) (by simp) (Arr.new w fs hl) ((Below.refl _ _).alloc (Nat.le_refl _) _)
  refine wpList_plain hg fun K hK => ?_
  unfold Oper.wp execOp
  simp only [ho, hx, Sem.run_bind, Instr.box, newVar, newRow, run_newObj_alloc, Sem.run_pure, Result.andThen_ok]
  exact hK _ _ h
end
theorem results_arr {fn : Func} {p u : Tmp} (h : fn.results = #[.cell p 91, .tmp u]) (tmps : Array Value) (w : World) (g : Nat) (fs : List Int)
    (hp : tmps.getD p undef = .pointer (some ⟨g, 0, none⟩)) (hf : Arr w g fs) :
    (results fn tmps).run Tryz.prog w = .ok (.tuple #[.agg (arr fs), tmps.getD u undef]) w := by
  rw [results_cell_tmp h, hp]
  have := run_loadVar_row (P := Tryz.prog) w g 91 91 (arr fs) (0, 0) (.array 300 3) hf.at_ (by kernel_rfl) rfl (by
    have := congrArg (Option.map Prod.fst) arr_zero
    rw [Option.map_map] at this
    rw [arr_size, hf.len]
    exact this)
  simp [asAddr, this]
end Go.Proofs.YtifmdkcpbajdcabGreatDoor
