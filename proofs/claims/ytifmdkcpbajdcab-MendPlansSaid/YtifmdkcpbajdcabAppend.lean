/- Laws: one element more behind a row of one's own: steps, numbers, ships. -/
import Derived.Test.YtifmdkcpbajdcabSpanW2
namespace Go.Proofs.Ytifmdkcpbajdcab
open Go.RowKit Go.Proofs Plain

theorem below_go {a w w' : World} (h : Below a.heap.size a w) (h2 : Below w.heap.size w w') : Below a.heap.size a w' := h.trans (h2.mono h.size)

theorem own_block {w : World} {base e size n : Nat} {v : Value} {xs : List Value} (h : w.ownsRow base e size v n xs) : ∀ g, v.ownBlock = some g → base ≤ g := by
  intro g hg
  rcases h.2 with ⟨hv, _⟩ | ⟨g', cap, cur, hv, hb, _⟩
  · rw [hv] at hg; cases hg
  · rw [hv] at hg; simp only [Value.ownBlock, Option.some.injEq] at hg; omega

theorem stepCells_app (l m : Prof) : stepCells (l ++ m) = stepCells l ++ stepCells m := by
  induction l with
  | nil => rfl
  | cons s r ih => simp only [List.cons_append, stepCells, ih]

def OwnS (w : World) (base : Nat) (v : Value) (l : Prof) : Prop := w.ownsRow base 90 2 v l.length (stepCells l)
def OwnI (w : World) (base : Nat) (v : Value) (l : List Int) : Prop := w.ownsRow base 3 1 v l.length (l.map (Value.int .i64))

theorem int_info : (Try.prog.info? 3).map (fun i => (i.zero, i.size, i.bytes)) = some (some (.int .i64 0), 1, 8) := by kernel_rfl

section
variable {ops : Array Oper} {rest : List Oper} {o : Oper} {a : Act} {w : World} {Q : Exit → Act → World → Prop}

theorem news_row {g : Nat} {cs : Array Value} {T : TypeId} (hg : w.heap[g]? = some (.cells cs T (0, 0))) (h1 : ∀ u ∈ cs.toList, u.oneCell' = true) : ∀ (j : Nat) u, cs.toList[j]? = some u → w.cell? ((⟨g, 0, none⟩ : Addr).add j) = some u := by
  intro j u hj
  have : (⟨g, 0, none⟩ : Addr).add j = ⟨g, j, none⟩ := by unfold Addr.add; split <;> simp_all
  rw [this, cell_of_row w g j cs T (0, 0) hg]
  simpa using hj

theorem wpList_append_step (hgd : o.guard = none) (s x : Operand) (ho : o.op = .call { callee := .builtin .append, args := #[s, x], argTypes := #[53, 53] })
    (base : Nat) (v : Value) (l : Prof) (hs : a.eval s = v) (hown : OwnS w base v l) (g c : Nat) (t y : Int) (hx : a.eval x = .slice (some ⟨g, 0, none⟩) 1 c)
    (hg : w.heap[g]? = some (.cells #[.int .i64 t, .int .i64 y] 90 (0, 0))) (hl : l.length ≤ 100000) (hb : base ≤ w.heap.size)
    (h : ∀ v' w', OwnS w' base v' (l ++ [(t, y)]) → w.grownBy w' v.ownBlock → wpList Try.prog ops Q rest (a.put o.dst v') w') : wpList Try.prog ops Q (o :: rest) a w := by
  obtain ⟨i0, hi0, hz0, hzs, hzb⟩ := info_parts step_info
  refine wpList_append_own w hgd s x 53 ho base 90 i0 _ 2 16 Try.underlying53 hi0 hz0 hzs hzb rfl (by decide) v l.length _ hs hown ⟨g, 0, none⟩ 1 c [.int .i64 t, .int .i64 y] hx rfl (news_row hg (by simp [Value.oneCell'])) (by simp [Value.oneCell']) (by unfold maxLen; omega) (by omega) hb fun v' w' ho' hg' _ => ?_
  exact h v' w' (by unfold OwnS; rw [stepCells_app, List.length_append]; exact ho') hg'

theorem wpList_append_int (hgd : o.guard = none) (s x : Operand) (ho : o.op = .call { callee := .builtin .append, args := #[s, x], argTypes := #[30, 30] })
    (base : Nat) (v : Value) (l : List Int) (hs : a.eval s = v) (hown : OwnI w base v l) (g c : Nat) (t : Int) (hx : a.eval x = .slice (some ⟨g, 0, none⟩) 1 c)
    (hg : w.heap[g]? = some (.cells #[.int .i64 t] 3 (0, 0))) (hl : l.length ≤ 100000) (hb : base ≤ w.heap.size)
    (h : ∀ v' w', OwnI w' base v' (l ++ [t]) → w.grownBy w' v.ownBlock → wpList Try.prog ops Q rest (a.put o.dst v') w') : wpList Try.prog ops Q (o :: rest) a w := by
  obtain ⟨i0, hi0, hz0, hzs, hzb⟩ := info_parts int_info
  refine wpList_append_own w hgd s x 30 ho base 3 i0 _ 1 8 Try.underlying30 hi0 hz0 hzs hzb rfl (by decide) v l.length _ hs hown ⟨g, 0, none⟩ 1 c [.int .i64 t] hx rfl (news_row hg (by simp [Value.oneCell'])) (by simp [Value.oneCell']) (by unfold maxLen; omega) (by omega) hb fun v' w' ho' hg' _ => ?_
  exact h v' w' (by unfold OwnI; rw [List.map_append, List.length_append]; exact ho') hg'
end

section
variable {w w' : World} {base : Nat} {v : Value}
theorem OwnS.alloc {l : Prof} (h : OwnS w base v l) (ob : Obj) : OwnS (w.alloc ob) base v l := World.ownsRow.alloc h ob
theorem OwnI.alloc {l : List Int} (h : OwnI w base v l) (ob : Obj) : OwnI (w.alloc ob) base v l := World.ownsRow.alloc h ob
theorem OwnS.nil (w : World) (base : Nat) : OwnS w base (.slice none 0 0) [] := ⟨rfl, .inl ⟨rfl, rfl⟩⟩
theorem OwnI.nil (w : World) (base : Nat) : OwnI w base (.slice none 0 0) [] := ⟨rfl, .inl ⟨rfl, rfl⟩⟩
theorem OwnS.below {l : Prof} (h : OwnS w base v l) (hb : Below w.heap.size w w') : OwnS w' base v l := own_below h hb
theorem OwnI.below {l : List Int} (h : OwnI w base v l) (hb : Below w.heap.size w w') : OwnI w' base v l := own_below h hb
theorem grown_below {B : Nat} {a : World} {e size n : Nat} {xs : List Value} (hb : Below B a w) (hg : w.grownBy w' v.ownBlock) (ho : w.ownsRow base e size v n xs) (h1 : B ≤ base) (h2 : B ≤ w.heap.size) : Below B a w' :=
  hb.grown hg h2 fun k hk => Nat.le_trans h1 (own_block ho k hk)
end

/-- Nothing behind a row of one's own. -/
theorem run_append_nothing {P : Program} {w : World} (base : Nat) (t ty e : TypeId) (i : TypeInfo) (size : Nat) (ht : P.underlying t = some (.slice e)) (hi : P.info? e = some i)
    (v : Value) (n : Nat) (xs : List Value) (hown : w.ownsRow base e size v n xs) (c : Nat) : (Builtin.append_ #[t, t] ty #[v, .slice none 0 c]).run P w = .ok v w := by
  rcases hown.2 with ⟨rfl, rfl⟩ | ⟨g, cap, cur, rfl, _, hg, hnc, _⟩
  · simp [Builtin.append_, run_underlying ht, sizeOf, typeInfo, hi, Builtin.lenOf, Builtin.firstCells]
  · simp [Builtin.append_, run_underlying ht, sizeOf, typeInfo, hi, Builtin.lenOf, Builtin.firstCells, hnc, storeCells]

/-- A copy by append: behind nothing all of a slice. -/
theorem wpList_append_copy {P : Program} {ops : Array Oper} {rest : List Oper} {o : Oper} {a : Act} {w : World} {Q : Exit → Act → World → Prop} (hgd : o.guard = none) (s x : Operand) (t : TypeId) (ho : o.op = .call { callee := .builtin .append, args := #[s, x], argTypes := #[t, t] })
    (base : Nat) (e : TypeId) (i : TypeInfo) (z : Value) (size bytes : Nat) (ht : P.underlying t = some (.slice e)) (hi : P.info? e = some i) (hz : i.zero = some z)
    (hsize : i.size = size) (hby : i.bytes = bytes) (hzs : z.cells.size = size) (hsz : 0 < size) (hs : a.eval s = .slice none 0 0)
    (A : Option Addr) (n c : Nat) (xs : List Value) (hx : a.eval x = .slice A n c) (hsl : Sl w size A n xs) (h1 : ∀ u ∈ xs, u.oneCell' = true) (h63 : n ≤ maxLen) (hbytes : n * bytes ≤ 140737488355328) (hbase : base ≤ w.heap.size)
    (h : ∀ v' w', w'.ownsRow base e size v' n xs → Below w.heap.size w w' → wpList P ops Q rest (a.put o.dst v') w') : wpList P ops Q (o :: rest) a w := by
  have hown : w.ownsRow base e size (.slice none 0 0) 0 [] := ⟨by simp, .inl ⟨rfl, rfl⟩⟩
  cases A with
  | none =>
    have hn : n = 0 := by
      rcases Nat.eq_zero_or_pos n with h0 | h0
      · exact h0
      · obtain ⟨b, off, e, _⟩ := hsl.2 (Nat.mul_pos h0 hsz); cases e
    subst hn
    have hxs : xs = [] := List.eq_nil_of_length_eq_zero (by rw [hsl.1]; simp)
    subst hxs
    refine wpList_plain hgd fun K hK => ?_
    have hrun := run_append_nothing (P := P) (w := w) base t o.type e i size ht hi _ 0 [] hown c
    unfold Oper.wp
    simp [execOp, ho, resolve, invoke, builtin, hs, hx, hrun, Result.andThen]
    exact hK _ _ (h _ _ hown (Below.refl _ _))
  | some ad =>
    refine wpList_append_own w hgd s x t ho base e i z size bytes ht hi hz hsize hby hzs hsz _ 0 [] hs hown ad n c xs hx hsl.1 (fun j u hj => ?_) h1 (by omega) (by rw [Nat.zero_add]; exact hbytes) hbase fun v' w' ho' hg' _ => ?_
    · have hpos : 0 < n * size := by
        have := (List.getElem?_eq_some_iff.1 hj).1
        rw [hsl.1] at this; omega
      obtain ⟨b, off, e, _⟩ := hsl.2 hpos
      injection e with e
      subst e
      exact hsl.news j u hj
    · rw [Nat.zero_add, List.nil_append] at ho'
      exact h v' w' ho' ((Below.refl _ _).grown hg' (Nat.le_refl _) (fun k hk => by cases hk))
end Go.Proofs.Ytifmdkcpbajdcab
