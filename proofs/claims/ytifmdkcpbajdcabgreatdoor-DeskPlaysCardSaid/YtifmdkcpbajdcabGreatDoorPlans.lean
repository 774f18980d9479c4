/- Laws: a region that draws its order, walked by a plan: what only reads is taken first; of what is left one comes up alone, or either of two. -/
import Derived.Test.YtifmdkcpbajdcabGreatDoorWords
import Derived.Deep.RegionHeld3
set_option linter.unusedVariables false
set_option linter.unusedSimpArgs false
namespace Go.Proofs.YtifmdkcpbajdcabGreatDoor
open Go.RowKit Go.Proofs
inductive WPlan where
  | fin
  | take (i : Nat) (r : WPlan)
  | one (i : Nat) (r : WPlan)
  | two (i j : Nat) (r s : WPlan)
section
variable {P : Program} {ops : Array Oper} {Q : Exit -> Act -> World -> Prop} {S : World -> Prop}
def okPlan (ops : Array Oper) : WPlan -> Nat -> Array Bool -> Bool
  | .fin, _, listed => (Region.ready .any ops listed).isEmpty
  | .take i r, f + 1, listed => Region.free .any ops listed i && (Region.ready .any ops listed).contains i && okPlan ops r f (listed.setIfInBounds i true)
  | .one i r, f + 1, listed => decide (Region.ready .any ops listed = [i]) && okPlan ops r f (listed.setIfInBounds i true)
  | .two i j r s, f + 1, listed => decide (Region.ready .any ops listed = [i, j]) && okPlan ops r f (listed.setIfInBounds i true) && okPlan ops s f (listed.setIfInBounds j true)
  | _, 0, _ => false
def Plans (P : Program) (ops : Array Oper) (Q : Exit -> Act -> World -> Prop) (S : World -> Prop) : WPlan -> Act -> World -> Prop
  | .fin, a, w => Q .normal a w
  | .take i r, a, w => ∃ o v, ops[i]? = some o /\ YieldsIf P ops S o v a /\ Plans P ops Q S r (a.put o.dst v) w
  | .one i r, a, w => wpOp P ops Q i (fun a' w' => S w' /\ Plans P ops Q S r a' w') a w
  | .two i j r s, a, w => wpOp P ops Q i (fun a' w' => S w' /\ Plans P ops Q S r a' w') a w /\ wpOp P ops Q j (fun a' w' => S w' /\ Plans P ops Q S s a' w') a w
theorem plans_held (hs : Region.noSelect ops = true) (hQ : ∀ (d : Option Tmp) (v : Value) c a w, Q (.panic c) (a.put d v) w -> Q (.panic c) a w) :
    ∀ (l : WPlan) (f : Nat) (listed : Array Bool) (a : Act) (w : World), okPlan ops l f listed = true -> S w -> Plans P ops Q S l a w -> wpAnyH P .any ops Q S f listed a w
  | .fin, f, listed, a, w, hB, _, h => wpAnyH_done (by cases f <;> simpa [okPlan] using hB) h f
  | .take i r, 0, listed, a, w, hB, hS, h => by cases hB
  | .one i r, 0, listed, a, w, hB, hS, h => by cases hB
  | .two i j r s, 0, listed, a, w, hB, hS, h => by cases hB
  | .take i r, f + 1, listed, a, w, hB, hS, h => by
    obtain ⟨o, v, ho, hy, h⟩ := h
    simp only [okPlan, Bool.and_eq_true] at hB
    exact wpAnyH_take ho hs hB.1.1 hB.1.2 (hQ o.dst v) hy hS (plans_held hs hQ r f _ _ _ hB.2 hS h)
  | .one i r, f + 1, listed, a, w, hB, hS, h => by
    simp only [okPlan, Bool.and_eq_true, decide_eq_true_eq] at hB
    refine wpAnyH_all hB.1 (by simp) fun j hj => ?_
    obtain rfl : j = i := by simpa using hj
    exact wpOp_mono (fun a' w' h' => ⟨h'.1, plans_held hs hQ r f _ _ _ hB.2 h'.1 h'.2⟩) h
  | .two i j r s, f + 1, listed, a, w, hB, hS, h => by
    simp only [okPlan, Bool.and_eq_true, decide_eq_true_eq] at hB
    refine wpAnyH_all hB.1.1 (by simp) fun k hk => ?_
    rcases List.mem_cons.1 hk with rfl | hk
    · exact wpOp_mono (fun a' w' h' => ⟨h'.1, plans_held hs hQ r f _ _ _ hB.1.2 h'.1 h'.2⟩) h.1
    · obtain rfl : k = j := by simpa using hk
      exact wpOp_mono (fun a' w' h' => ⟨h'.1, plans_held hs hQ s f _ _ _ hB.2 h'.1 h'.2⟩) h.2
def okPlans (ops : Array Oper) (l : WPlan) : Bool := Region.noSelect ops && okPlan ops l ops.size (Array.replicate ops.size false)
theorem wRP {id : Nat} {a : Act} {w : World} (l : WPlan) (hm : P.follows .mixedOrders = true) (hB : okPlans ops l = true) (hS : S w.drew) (h : Plans P ops (NoPanic Q) S l a w.drew) :
    (Code.region id ops true).wp P Q a w := by
  simp only [okPlans, Bool.and_eq_true] at hB
  exact wp_region_noPanic (wp_region_held (S := S) hm (plans_held (Q := NoPanic Q) (S := S) hB.1 (fun _ _ _ _ _ h => h) l _ _ a w.drew hB.2 hS h))
section
variable {i j : Nat} {o : Oper} {v : Value} {r s : WPlan} {a : Act} {w : World}
theorem pD_ (h : Q .normal a w) : Plans P ops Q S .fin a w := h
theorem pT_ (ho : ops[i]? = some o) (hw : Region.wanted o (yielded ops a.tmps) = true) (hy : ∀ w, S w -> (execOp a.eval o).run P w = .ok (.value v) w)
    (h : Plans P ops Q S r (a.put o.dst v) w) : Plans P ops Q S (.take i r) a w := ⟨o, v, ho, .inl ⟨hw, hy⟩, h⟩
theorem pO_ (ho : ops[i]? = some o) (hw : Region.wanted o (yielded ops a.tmps) = true)
    (h : ∀ K : Act -> World -> Prop, Hid (∀ a w, S w -> Plans P ops Q S r a w -> K a w) -> o.wp P a w K Q) : Plans P ops Q S (.one i r) a w := by
  show wpOp P ops Q i _ a w
  exact wpOp_step ho fun K hK => by
    rw [if_pos hw]; exact h K (Lib.hid fun a w h1 h2 => hK a w ⟨h1, h2⟩)
theorem plan_two (h1 : Plans P ops Q S (.one i r) a w) (h2 : Plans P ops Q S (.one j s) a w) : Plans P ops Q S (.two i j r s) a w := ⟨h1, h2⟩
end
end
end Go.Proofs.YtifmdkcpbajdcabGreatDoor
