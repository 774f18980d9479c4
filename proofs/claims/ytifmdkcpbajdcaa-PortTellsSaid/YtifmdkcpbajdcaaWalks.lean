/- Laws: a region that draws its order, walked in one order: what only reads is taken first, each call comes up alone. -/
import Derived.Test.YtifmdkcpbajdcaaPortMem
import Derived.Deep.RegionHeld3
namespace Go.Proofs.Ytifmdkcpbajdcaa
open Go.RowKit Go.Proofs Plain

section
variable {P : Program} {ops : Array Oper} {Q : Exit → Act → World → Prop} {S : World → Prop}

/-- Is this order one in which what is marked may be taken first, and all else comes up alone? -/
def okSteps (ops : Array Oper) : List (Nat × Bool) → Array Bool → Bool
  | [], listed => (Region.ready .any ops listed).isEmpty
  | (i, true) :: r, listed => Region.free .any ops listed i && (Region.ready .any ops listed).contains i && okSteps ops r (listed.setIfInBounds i true)
  | (i, false) :: r, listed => decide (Region.ready .any ops listed = [i]) && okSteps ops r (listed.setIfInBounds i true)

/-- The walk in that order. -/
def Walks (P : Program) (ops : Array Oper) (Q : Exit → Act → World → Prop) (S : World → Prop) : List (Nat × Bool) → Act → World → Prop
  | [], a, w => Q .normal a w
  | (i, true) :: r, a, w => ∃ o v, ops[i]? = some o ∧ YieldsIf P ops S o v a ∧ Walks P ops Q S r (a.put o.dst v) w
  | (i, false) :: r, a, w => wpOp P ops Q i (fun a' w' => S w' ∧ Walks P ops Q S r a' w') a w

theorem walks_held (hs : Region.noSelect ops = true) (hQ : ∀ (d : Option Tmp) (v : Value) c a w, Q (.panic c) (a.put d v) w → Q (.panic c) a w) :
    ∀ (l : List (Nat × Bool)) (listed : Array Bool) (a : Act) (w : World), okSteps ops l listed = true → S w → Walks P ops Q S l a w → wpAnyH P .any ops Q S l.length listed a w
  | [], listed, a, w, hB, _, h => ⟨by simpa [okSteps] using hB, h⟩
  | (i, true) :: r, listed, a, w, hB, hS, h => by
    obtain ⟨o, v, ho, hy, h⟩ := h
    simp only [okSteps, Bool.and_eq_true] at hB
    exact wpAnyH_take ho hs hB.1.1 hB.1.2 (hQ o.dst v) hy hS (walks_held hs hQ r _ _ _ hB.2 hS h)
  | (i, false) :: r, listed, a, w, hB, hS, h => by
    simp only [okSteps, Bool.and_eq_true, decide_eq_true_eq] at hB
    refine wpAnyH_all hB.1 (by simp) fun j hj => ?_
    obtain rfl : j = i := by simpa using hj
    exact wpOp_mono (fun a' w' h' => ⟨h'.1, walks_held hs hQ r _ _ _ hB.2 h'.1 h'.2⟩) h

/-- All that is to be reckoned of such a region. -/
def okRegion (ops : Array Oper) (l : List (Nat × Bool)) : Bool := Region.noSelect ops && decide (l.length = ops.size) && okSteps ops l (Array.replicate ops.size false)

theorem wp_region_walks {id : Nat} {a : Act} {w : World} (l : List (Nat × Bool)) (hm : P.follows .mixedOrders = true) (hB : okRegion ops l = true) (hS : S w.drew) (h : Walks P ops (NoPanic Q) S l a w.drew) :
    (Code.region id ops true).wp P Q a w := by
  simp only [okRegion, Bool.and_eq_true, decide_eq_true_eq] at hB
  refine wp_region_noPanic (wp_region_held (S := S) hm ?_)
  have := walks_held (Q := NoPanic Q) (S := S) hB.1.1 (fun _ _ _ _ _ h => h) l _ a w.drew hB.2 hS h
  rw [hB.1.2] at this
  exact this

section
variable {i : Nat} {o : Oper} {v : Value} {r : List (Nat × Bool)} {a : Act} {w : World}
theorem walk_done (h : Q .normal a w) : Walks P ops Q S [] a w := h
theorem walk_take (ho : ops[i]? = some o) (hw : Region.wanted o (yielded ops a.tmps) = true) (hy : ∀ w, S w → (execOp a.eval o).run P w = .ok (.value v) w)
    (h : Walks P ops Q S r (a.put o.dst v) w) : Walks P ops Q S ((i, true) :: r) a w := ⟨o, v, ho, .inl ⟨hw, hy⟩, h⟩
theorem walk_move (x : Operand) (ho : ops[i]? = some o) (hx : o.op = .move x ∨ o.op = .assign x) (hw : Region.wanted o (yielded ops a.tmps) = true)
    (h : Walks P ops Q S r (a.put o.dst (a.eval x)) w) : Walks P ops Q S ((i, true) :: r) a w :=
  ⟨o, a.eval x, ho, .inl ⟨hw, fun w _ => by unfold execOp; rcases hx with hx | hx <;> simp only [hx] <;> rfl⟩, h⟩
theorem walk_skip (ho : ops[i]? = some o) (hw : Region.wanted o (yielded ops a.tmps) = false) (h : Walks P ops Q S r (a.put o.dst undef) w) : Walks P ops Q S ((i, true) :: r) a w :=
  ⟨o, undef, ho, .inr ⟨hw, rfl⟩, h⟩
theorem walk_ask (ho : ops[i]? = some o) (hw : Region.wanted o (yielded ops a.tmps) = true)
    (h : ∀ K : Act → World → Prop, Hid (∀ a w, S w → Walks P ops Q S r a w → K a w) → o.wp P a w K Q) : Walks P ops Q S ((i, false) :: r) a w := by
  show wpOp P ops Q i _ a w
  exact wpOp_step ho fun K hK => by
    rw [if_pos hw]; exact h K (Lib.hid fun a w h1 h2 => hK a w ⟨h1, h2⟩)
end
end
end Go.Proofs.Ytifmdkcpbajdcaa
