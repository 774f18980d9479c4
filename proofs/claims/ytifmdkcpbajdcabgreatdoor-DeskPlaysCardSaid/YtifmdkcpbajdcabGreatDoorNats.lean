/- Words: ranks as integers; what Ranked answers. -/
import Derived.Test.YtifmdkcpbajdcabGreatDoorInts
import Derived.Test.YtifmdkcpbajdcabGreatDoorBaseW
import Derived.Test.YtifmdkcpbajdcabGreatDoorPlain
set_option linter.unusedVariables false
set_option linter.unusedSimpArgs false
namespace Go.Proofs.YtifmdkcpbajdcabGreatDoor
open Go.RowKit Go.Proofs Plain
def natsI (r : List Nat) : List Int := r.map fun i : Nat => (i : Int)
theorem nIl (r : List Nat) : (natsI r).length = r.length := List.length_map ..
theorem natsI_get (r : List Nat) (k : Nat) (h : k < r.length) : (natsI r).getD k 0 = ((r.getD k 0 : Nat) : Int) := by
  simp only [natsI, List.getD_eq_getElem?_getD, List.getElem?_map, List.getElem?_eq_getElem h]; rfl
def RanksAt (w : World) (p : Port) (A : Option Addr) (c : Nat) : Prop :=
  Calls Tryz.prog 74 #[.agg (portA p A c)] w (RetInts (natsI (rankL p)) w)
theorem rank_len (p : Port) : (rankL p).length <= p.ships.length := by
  have h := List.length_filter_le (fun i => decide ((p.ship i).state = 1)) (List.range p.ships.length)
  unfold rankL
  rw [List.length_mergeSort]
  rwa [List.length_range] at h
theorem ship_kept {wr w5 : World} {g j : Nat} {t : Int} {s : Ship} (hg : g < wr.heap.size) (hb : Below (wr.alloc (.cells (shipV s) 61)).heap.size (wr.alloc (.cells (shipV s) 61)) w5) :
    ∀ i, i < 6 -> (w5.setCell ⟨g, j, none⟩ (.int .i64 t)).cell? ⟨wr.heap.size, i, none⟩ = (shipV s)[i]? := fun i hi => by
  rw [World.cell?_of_block (w := w5) (Below.heap_setCell w5 ⟨g, j, none⟩ _ wr.heap.size (by simp; omega)), hb.cell (p := ⟨wr.heap.size, i, none⟩) (by simp), cell_of_row _ wr.heap.size i _ _ _ (heap_alloc_new wr _)]
end Go.Proofs.YtifmdkcpbajdcabGreatDoor
