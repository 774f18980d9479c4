/- Words for memory: a slice that holds a row of cells; what stays of it while the world grows. -/
import Derived.Below
import Derived.Laws.OwnMore
import Derived.Lib.Hide
import Derived.Carry
import Derived.Deep.Draws
set_option linter.unusedVariables false
set_option linter.unusedSimpArgs false
namespace Go.Proofs.YtifmdkcpbajdcabGreatDoor
open Go.RowKit
def Sl (w : World) (size : Nat) (A : Option Addr) (n : Nat) (xs : List Value) : Prop :=
  xs.length = n * size /\ (0 < n * size -> ∃ b off, A = some ⟨b, off, none⟩ /\ ∀ j, j < n * size -> w.cell? ⟨b, off + j, none⟩ = xs[j]?)
section
variable {w w' : World} {size n : Nat} {A : Option Addr} {xs : List Value}
theorem Sl.zero (w : World) (size : Nat) (A : Option Addr) : Sl w size A 0 [] := ⟨by simp, fun h => absurd h (by simp)⟩
theorem cell_lt {w : World} {b o : Nat} {v : Value} (h : w.cell? ⟨b, o, none⟩ = some v) : b < w.heap.size := World.block_lt_of_cell? w ⟨b, o, none⟩ h
theorem Sl.lt (h : Sl w size A n xs) (hn : 0 < n * size) : ∃ b off, A = some ⟨b, off, none⟩ /\ b < w.heap.size := by
  obtain ⟨b, off, e, hc⟩ := h.2 hn
  have h0 := hc 0 hn
  rw [List.getElem?_eq_getElem (by rw [h.1]; exact hn)] at h0
  exact ⟨b, off, e, cell_lt h0⟩
theorem Sl.keep (h : Sl w size A n xs) (hk : ∀ b o, b < w.heap.size -> w'.cell? ⟨b, o, none⟩ = w.cell? ⟨b, o, none⟩) : Sl w' size A n xs :=
  ⟨h.1, fun hn => by
    obtain ⟨b, off, e, hc⟩ := h.2 hn
    obtain ⟨b', off', e', hlt⟩ := h.lt hn
    rw [e] at e'
    injection e' with e'
    injection e' with e1 e2
    subst e1
    exact ⟨b, off, e, fun j hj => (hk b _ hlt).trans (hc j hj)⟩⟩
theorem Sl.below (h : Sl w size A n xs) (hb : Below w.heap.size w w') : Sl w' size A n xs := h.keep fun b o hlt => hb.cell (p := ⟨b, o, none⟩) hlt
theorem Sl.alloc (h : Sl w size A n xs) (o : Obj) : Sl (w.alloc o) size A n xs := h.keep fun b i hlt => World.cell?_alloc_lt w o ⟨b, i, none⟩ hlt
theorem Sl.drew (h : Sl w size A n xs) : Sl w.drew size A n xs := h
theorem Sl.drewN (h : Sl w size A n xs) (k : Nat) : Sl (w.drewN k) size A n xs := h
theorem Sl.new (w : World) (cs : Array Value) (T : TypeId) (h : cs.size = n * size) : Sl (w.alloc (.cells cs T)) size (some ⟨w.heap.size, 0, none⟩) n cs.toList :=
  ⟨by simpa using h, fun _ => ⟨w.heap.size, 0, rfl, fun j hj => by
    rw [Nat.zero_add, cell_of_row (w.alloc (.cells cs T)) w.heap.size j cs T (0, 0) (heap_alloc_new w _)]
    simp⟩⟩
theorem Sl.news {b off : Nat} (h : Sl w size (some ⟨b, off, none⟩) n xs) : ∀ j u, xs[j]? = some u -> w.cell? ((⟨b, off, none⟩ : Addr).add j) = some u := by
  intro j u hu
  have hj : j < n * size := by
    have := (List.getElem?_eq_some_iff.1 hu).1
    rw [<- h.1]; exact this
  obtain ⟨b', off', e, hc⟩ := h.2 (by omega)
  injection e with e
  injection e with e1 e2
  subst e1; subst e2
  have : (⟨b, off, none⟩ : Addr).add j = ⟨b, off + j, none⟩ := by unfold Addr.add; split <;> simp_all
  rw [this, hc j hj]; exact hu
theorem own_empty (w : World) (base : Nat) (T : TypeId) (size : Nat) (hb : base <= w.heap.size) : (w.alloc (.cells #[] T)).ownsRow base T size (.slice (some ⟨w.heap.size, 0, none⟩) 0 0) 0 [] :=
  World.ownsRow_made w #[] 0 hb (by simp [maxLen]) (by simp)
theorem own_form {base : Nat} {T : TypeId} {v : Value} (h : w.ownsRow base T size v n xs) : ∃ A c, v = .slice A n c := by
  rcases h.2 with ⟨hv, hn⟩ | ⟨g, cap, cur, hv, _⟩
  · exact ⟨none, 0, by rw [hv, hn]⟩
  · exact ⟨_, cap, hv⟩
theorem Sl.of_own {base : Nat} {e : TypeId} {c : Nat} (h : w.ownsRow base e size (.slice A n c) n xs) : Sl w size A n xs := by
  refine ⟨h.1, fun hn => ?_⟩
  rcases h.2 with ⟨hv, hn0⟩ | ⟨g, cap, cur, hv, hg, hh, h1, h2, h3, h4⟩
  · rw [hn0] at hn; simp at hn
  · injection hv with hA _ _
    refine ⟨g, 0, hA, fun j hj => ?_⟩
    rw [Nat.zero_add, cell_of_row w g j cur e (0, 0) hh, <- h4, List.getElem?_take, if_pos hj]
    simp
end
theorem oBl {w w' : World} {base : Nat} {T : TypeId} {size n : Nat} {v : Value} {xs : List Value} (h : w.ownsRow base T size v n xs) (hb : Below w.heap.size w w') : w'.ownsRow base T size v n xs := by
  refine ⟨h.1, ?_⟩
  rcases h.2 with hn | ⟨g, cap, cur, hv, hg, hh, rest⟩
  · exact .inl hn
  · exact .inr ⟨g, cap, cur, hv, hg, (hb.block g (Array.getElem?_eq_some_iff.1 hh).1).trans hh, rest⟩
theorem bdN {B : Nat} {a w : World} (h : Below B a w) (n : Nat) : Below B a (w.drewN n) := ⟨h.os, h.tape, h.output, h.size, h.block⟩
theorem bUn {w w' : World} (h : Below w.drew.heap.size w.drew w') : Below w.heap.size w w' := ⟨h.os, h.tape, h.output, h.size, h.block⟩
theorem olds {w w' : World} (h : Below w.heap.size w w') :
    (∀ b o, b < w.heap.size -> w'.cell? ⟨b, o, none⟩ = w.cell? ⟨b, o, none⟩) /\ (∀ b o, b < w.heap.size -> w'.frozen? ⟨b, o, none⟩ = w.frozen? ⟨b, o, none⟩) :=
  ⟨fun b o hb => h.cell (p := ⟨b, o, none⟩) hb, fun b o hb => h.frozen (p := ⟨b, o, none⟩) hb⟩
theorem ret_sl {A : Option Addr} {n m c : Nat} (h : n = m) : Ending.returned (.slice A n c) = .returned (.slice A m c) := by rw [h]
theorem ret_int {k : IntKind} {a b : Int} (h : a = b) : Ending.returned (.int k a) = .returned (.int k b) := by rw [h]
theorem rtB {a b : Bool} (h : a = b) : Ending.returned (.bool a) = .returned (.bool b) := by rw [h]
end Go.Proofs.YtifmdkcpbajdcabGreatDoor
