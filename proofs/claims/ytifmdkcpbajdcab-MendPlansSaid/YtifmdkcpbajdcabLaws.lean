/- Laws of no program: copy over elements of several cells, onto a row of one's own. -/
import Derived.Test.YtifmdkcpbajdcabWords
import Derived.Shelf.Spec.SlicesInsertGrow
import Derived.Laws.CopyOwn
namespace Go.Proofs.Ytifmdkcpbajdcab
open Go.RowKit Go.Proofs

section
variable {P : Program}

theorem run_copy_cellsK (w : World) (dT sT ty elem : TypeId) (k g o dLen dCap : Nat) (a : Addr) (sLen sCap : Nat) (cur : Array Value) (t : TypeId) (cs : List Value)
    (hu : P.underlying dT = some (.slice elem)) (hs : (P.info? elem).map (·.size) = some k)
    (hg : w.heap[g]? = some (.cells cur t (0, 0))) (hn : cs.length = Nat.min sLen dLen * k)
    (hsrc : ∀ j v, cs[j]? = some v → w.cell? (a.add j) = some v) (hfit : o + cs.length ≤ cur.size) (h1 : ∀ v ∈ cs, v.oneCell' = true) :
    (Builtin.copy_ #[dT, sT] ty #[.slice (some ⟨g, o, none⟩) dLen dCap, .slice (some a) sLen sCap]).run P w =
      .ok (goInt (Nat.min sLen dLen)) (w.setRow g (splice cur.toList o cs).toArray) := by
  have hl := run_loadCells_list (P := P) w a cs hsrc
  have hst := run_storeCells_at P g o t cs 0 cur w hg (by simpa using hfit) h1
  rw [hn] at hl
  cases hq : P.info? elem with
  | none => simp [hq] at hs
  | some i =>
    have hi : i.size = k := by simpa [hq] using hs
    simp [Builtin.copy_, run_underlying hu, Builtin.lenOf, Builtin.firstCells, sizeOf, typeInfo, hq, hi, hl, hst, splice]

theorem setRow_is {w : World} {g : Nat} {cur : Array Value} {t : TypeId} (hg : w.heap[g]? = some (.cells cur t (0, 0))) (cs : Array Value) : (w.setRow g cs).heap[g]? = some (.cells cs t (0, 0)) :=
  setRow_heap w g cur cs t _ hg

theorem cell_in {w : World} {g : Nat} {cur : Array Value} {t : TypeId} (hg : w.heap[g]? = some (.cells cur t (0, 0))) (o : Nat) : w.cell? ⟨g, o, none⟩ = cur[o]? := cell_of_row w g o cur t (0, 0) hg
theorem add_at (g o j : Nat) : (⟨g, o, none⟩ : Addr).add j = ⟨g, o + j, none⟩ := by unfold Addr.add; split <;> simp_all

/-- Two cells laid into a row behind which the rest has moved on by two. -/
theorem splice_ins (cur L two : List Value) (i n : Nat) (hL : cur.take (n * 2) = L) (hn : (n + 1) * 2 ≤ cur.length) (hi : i < n) (h2 : two.length = 2) :
    (splice (splice cur ((i + 1) * 2) (L.drop (i * 2))) (i * 2) two).length = cur.length ∧
    (splice (splice cur ((i + 1) * 2) (L.drop (i * 2))) (i * 2) two).take ((n + 1) * 2) = L.take (i * 2) ++ two ++ L.drop (i * 2) := by
  have hLl : L.length = n * 2 := by rw [← hL, List.length_take]; omega
  have hX : (L.drop (i * 2)).length = n * 2 - i * 2 := by rw [List.length_drop, hLl]
  have hf : splice cur ((i + 1) * 2) (L.drop (i * 2)) = cur.take ((i + 1) * 2) ++ (L.drop (i * 2) ++ cur.drop ((n + 1) * 2)) := by
    unfold splice; rw [hX]; congr 3; omega
  have hl1 : (splice cur ((i + 1) * 2) (L.drop (i * 2))).length = cur.length := length_splice _ _ _ (by rw [hX]; omega)
  refine ⟨by rw [length_splice _ _ _ (by rw [hl1, h2]; omega), hl1], ?_⟩
  have ht : (splice cur ((i + 1) * 2) (L.drop (i * 2))).take (i * 2) = L.take (i * 2) := by
    rw [hf, List.take_append_of_le_length (by rw [List.length_take]; omega), List.take_take, ← hL, List.take_take]
    congr 1; omega
  have hd : (splice cur ((i + 1) * 2) (L.drop (i * 2))).drop (i * 2 + 2) = L.drop (i * 2) ++ cur.drop ((n + 1) * 2) := by
    rw [hf, show i * 2 + 2 = (cur.take ((i + 1) * 2)).length by rw [List.length_take]; omega, List.drop_left]
  unfold splice at ht hd ⊢
  rw [h2, ht, hd, ← List.append_assoc, ← List.append_assoc]
  rw [List.take_append_of_le_length (by simp only [List.length_append, List.length_take]; omega)]
  exact List.take_of_length_le (by simp only [List.length_append, List.length_take]; omega)

/-- The same in a new row that begins as the old one. -/
theorem splice_ins2 (ROW L two : List Value) (i n : Nat) (hL : L.length = n * 2) (hR : ROW.take (i * 2) = L.take (i * 2)) (hn : (n + 1) * 2 ≤ ROW.length) (hi : i < n) (h2 : two.length = 2) :
    (splice (splice ROW (i * 2) two) ((i + 1) * 2) (L.drop (i * 2))).length = ROW.length ∧
    (splice (splice ROW (i * 2) two) ((i + 1) * 2) (L.drop (i * 2))).take ((n + 1) * 2) = L.take (i * 2) ++ two ++ L.drop (i * 2) := by
  have hX : (L.drop (i * 2)).length = n * 2 - i * 2 := by rw [List.length_drop, hL]
  have hl1 : (splice ROW (i * 2) two).length = ROW.length := length_splice _ _ _ (by rw [h2]; omega)
  refine ⟨by rw [length_splice _ _ _ (by rw [hX, hl1]; omega), hl1], ?_⟩
  have ht : (splice ROW (i * 2) two).take ((i + 1) * 2) = L.take (i * 2) ++ two := by
    unfold splice
    rw [← List.append_assoc, hR, show (i + 1) * 2 = (L.take (i * 2) ++ two).length by rw [List.length_append, List.length_take, h2, hL]; omega, List.take_left]
  generalize splice ROW (i * 2) two = M at *
  unfold splice
  rw [ht, ← List.append_assoc, List.take_append_of_le_length (by simp only [List.length_append, List.length_take, hX, h2, hL]; omega)]
  exact List.take_of_length_le (by simp only [List.length_append, List.length_take, hX, h2, hL]; omega)

theorem run_clear_row (w : World) (t ty elem : TypeId) (i : TypeInfo) (z : Value) (g o n c : Nat) (cur : Array Value) (e : TypeId)
    (hu : P.underlying t = some (.slice elem)) (hi : P.info? elem = some i) (hz : i.zero = some z) (hz1 : ∀ v ∈ z.cells.toList, v.oneCell' = true)
    (hg : w.heap[g]? = some (.cells cur e (0, 0))) (hfit : o + n * z.cells.size ≤ cur.size) (h0 : 0 < n) :
    (Builtin.clear_ #[t] ty #[.slice (some ⟨g, o, none⟩) n c]).run P w = .ok (.tuple #[]) (w.setRow g (splice cur.toList o (Builtin.zeroCells z.cells n).toList).toArray) := by
  have hsize : (Builtin.zeroCells z.cells n).toList.length = n * z.cells.size := by simp [Builtin.zeroCells]
  have h1 : ∀ v ∈ (Builtin.zeroCells z.cells n).toList, v.oneCell' = true := by
    intro v hv
    simp only [Builtin.zeroCells, Array.toList_map, List.mem_map] at hv
    obtain ⟨j, hj, rfl⟩ := hv
    have hpos : 0 < z.cells.size := by
      rcases Nat.eq_zero_or_pos z.cells.size with h | h
      · simp [h] at hj
      · exact h
    have hlt : j % z.cells.size < z.cells.size := Nat.mod_lt _ hpos
    rw [getElem!_pos z.cells _ hlt]
    exact hz1 _ (Array.getElem_mem_toList hlt)
  have hst := run_storeCells_at P g o e (Builtin.zeroCells z.cells n).toList 0 cur w hg (by simpa [hsize] using hfit) h1
  cases n with
  | zero => omega
  | succ n => simp [Builtin.clear_, run_underlying hu, zeroValue, typeInfo, hi, hz, splice] at hst ⊢; simp [hst]

theorem wpList_clear_run (w : World) {ops : Array Oper} {rest : List Oper} {o : Oper} {a : Act} {Q : Exit → Act → World → Prop} (hgd : o.guard = none) (x : Operand) (t : TypeId)
    (ho : o.op = .call { callee := .builtin .clear, args := #[x], argTypes := #[t] }) (v : Value) (hx : a.eval x = v) {v' : Value} {w' : World}
    (hr : (Builtin.clear_ #[t] o.type #[v]).run P w = .ok v' w') (h : wpList P ops Q rest (a.put o.dst v') w') : wpList P ops Q (o :: rest) a w :=
  wpList_plain hgd fun _ hK => by
    unfold Oper.wp execOp
    simp only [ho, resolve, invoke, builtin, Sem.run_bind, Sem.run_pure, Result.andThen_ok, List.map_toArray, List.map_cons, List.map_nil, hx, hr]
    exact hK _ _ h

end
end Go.Proofs.Ytifmdkcpbajdcab
