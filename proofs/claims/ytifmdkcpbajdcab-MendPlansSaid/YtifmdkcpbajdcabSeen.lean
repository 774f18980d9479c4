/- Laws: a map of numbers to bools that the call makes and asks: a set. -/
import Derived.Test.YtifmdkcpbajdcabPortMem
import Derived.Maps.OwnSet
import Derived.Maps.OwnOps
namespace Go.Proofs.Ytifmdkcpbajdcab
open Go.RowKit Go.Proofs Plain Go.Maps

theorem seenKey : Keyed Try.prog 3 := int_keyed Try.underlying3
theorem zero_bool (w : World) : (zeroValue 4).run Try.prog w = .ok (.bool false) w := by kernel_rfl

/-- Block b is a map that holds true at just the numbers of l; n entries at most. -/
def Seen (w : World) (b n : Nat) (l : List Int) : Prop :=
  ∃ D : DataW Unit, w.ownsMap Try.prog 3 (plainElem Try.prog 4) b n D ∧ IsMap D ∧ ∀ q : Int, D.atKey (.int .i64 q) (.lit (.bool false)) = .lit (.bool (decide (q ∈ l)))

section
variable {w w' : World} {b n : Nat} {l : List Int}

theorem plainBool_inv {H : Type} {P : Program} {e : TypeId} (he : P.underlying e = some .bool) {v : Value} {z : DataW H × List MemPlace} (h : plainElem P e v = some z) : ∃ x, v = .bool x ∧ z = (.lit (.bool x), []) := by
  unfold plainElem at h
  rw [he] at h
  cases v <;> simp at h
  exact ⟨_, rfl, h.symm⟩

theorem Seen.made (w : World) : Seen (w.alloc (.map #[] 0)) w.heap.size 0 [] :=
  ⟨.map [], World.ownsMap_made _ _ _ _, isMap_empty, fun q => by simp [DataW.atKey]⟩
theorem Seen.alloc (h : Seen w b n l) (o : Obj) : Seen (w.alloc o) b n l := by obtain ⟨D, a, c, d⟩ := h; exact ⟨D, a.alloc o, c, d⟩
theorem Seen.drewN (h : Seen w b n l) (k : Nat) : Seen (w.drewN k) b n l := h
theorem Seen.lt (h : Seen w b n l) : b < w.heap.size := by obtain ⟨D, a, _⟩ := h; exact a.lt
theorem Seen.below (h : Seen w b n l) (hb : Below w.heap.size w w') : Seen w' b n l := by
  obtain ⟨D, a, c, d⟩ := h
  have hlt := a.lt
  obtain ⟨es, clock, h1, h2, h3, h4⟩ := a
  exact ⟨D, ⟨es, clock, (hb.block b hlt).trans h1, h2, h3, h4⟩, c, d⟩

theorem Seen.look (h : Seen w b n l) {q : Int} (hq : i64 q) : (Instr.lookup 51 (.map (some b)) (.int .i64 q) false).run Try.prog w = .ok (.bool (decide (q ∈ l))) w := by
  obtain ⟨D, a, c, d⟩ := h
  have hwf : (Lit.int .i64 q).wf = true := WalkArith.wf_i64 hq
  obtain ⟨v, ps, hrun, hv⟩ := a.lookup seenKey Try.underlying51 (zero_bool w) (plainElem_bool Try.underlying4 false) (keyOf_int_mk Try.underlying3 hwf)
  rw [d q] at hv
  rw [hrun]
  obtain ⟨x, rfl, hx⟩ := plainBool_inv Try.underlying4 hv
  simp only [Prod.mk.injEq, DataW.lit.injEq, Lit.bool.injEq] at hx
  rw [hx.1]

section
variable {ops : Array Oper} {rest : List Oper} {o : Oper} {a : Act} {Q : Exit → Act → World → Prop}

/-- Is it there? Under a guard. -/
theorem oper_look_seen {K : Act → World → Prop} {m x : Operand} {q : Int} (ho : o.op = Op.lookup 51 m x false) (hm : a.eval m = .map (some b)) (hx : a.eval x = .int .i64 q)
    (h : Seen w b n l) (hq : i64 q) (hK : K (a.put o.dst (.bool (decide (q ∈ l)))) w) : o.wp Try.prog a w K Q := by
  unfold Oper.wp
  simp [execOp, ho, hm, hx, h.look hq, Result.andThen]
  exact hK

theorem wpList_look_seen {m x : Operand} {q : Int} (hg : o.guard = none) (ho : o.op = Op.lookup 51 m x false) (hm : a.eval m = .map (some b)) (hx : a.eval x = .int .i64 q)
    (h : Seen w b n l) (hq : i64 q) (hK : wpList Try.prog ops Q rest (a.put o.dst (.bool (decide (q ∈ l)))) w) : wpList Try.prog ops Q (o :: rest) a w :=
  wpList_plain hg fun _ hk => oper_look_seen ho hm hx h hq (hk _ _ hK)

/-- One more. -/
theorem wpList_put_seen {m x v : Operand} {q : Int} (hg : o.guard = none) (ho : o.op = Op.mapUpdate 51 m x v) (hm : a.eval m = .map (some b)) (hx : a.eval x = .int .i64 q) (hv : a.eval v = .bool true)
    (h : Seen w b n l) (hn : n < 1000) (hq : i64 q) (hK : ∀ w', Seen w' b (n + 1) (q :: l) → w.grownBy w' (some b) → wpList Try.prog ops Q rest (a.put o.dst undef) w') : wpList Try.prog ops Q (o :: rest) a w := by
  obtain ⟨D, hown, c, d⟩ := h
  have hwf : (Lit.int .i64 q).wf = true := WalkArith.wf_i64 hq
  refine wpList_mapUpdate_own w hg m x v 51 ho 3 4 seenKey Try.underlying51 _ b n D hm hown (by unfold maxLen; omega) _ _ (.int .i64 q) hx hv (keyOf_int_mk Try.underlying3 hwf) (.lit (.bool true)) [] (plainElem_bool Try.underlying4 true) fun w' ho' hg' => ?_
  refine hK w' ⟨_, ho', c.put _ _, fun p => ?_⟩ hg'
  by_cases e : p = q
  · subst e
    rw [atKey_put_same c (by trivial)]; simp
  · rw [atKey_put_other (by simpa using e), d p]; simp [e]
end

/-- A map made and written to: the rest stands. -/
theorem below_seen {B : Nat} {a0 : World} (hb : Below B a0 w) (hg : w.grownBy w' (some b)) (h1 : B ≤ w.heap.size) (h2 : B ≤ b) : Below B a0 w' := hb.grown hg h1 fun j hj => by cases hj; exact h2
end
end Go.Proofs.Ytifmdkcpbajdcab
