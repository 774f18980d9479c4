/- Words: ranks as integers; what Ranked answers. -/
import Derived.Test.YtifmdkcpbajdcabInts
import Derived.Test.YtifmdkcpbajdcabBaseW
import Derived.Test.YtifmdkcpbajdcabPlain
set_option linter.unusedVariables false
set_option linter.unusedSimpArgs false
namespace Go.Proofs.Ytifmdkcpbajdcab
open Go.RowKit Go.Proofs Plain

def natsI (r : List Nat) : List Int := r.map fun i : Nat => (i : Int)
theorem natsI_len (r : List Nat) : (natsI r).length = r.length := List.length_map ..
theorem natsI_get (r : List Nat) (k : Nat) (h : k < r.length) : (natsI r).getD k 0 = ((r.getD k 0 : Nat) : Int) := by
  simp only [natsI, List.getD_eq_getElem?_getD, List.getElem?_map, List.getElem?_eq_getElem h]; rfl

/-- What Ranked answers of a good port. -/
def RanksAt (w : World) (p : Port) (A : Option Addr) (c : Nat) : Prop :=
  Calls Try.prog 31 #[.agg (portA p A c)] w (RetInts (natsI (rankL p)) w)

theorem rank_len (p : Port) : (rankL p).length ≤ p.ships.length := by
  have h := List.length_filter_le (fun i => decide ((p.ship i).state = 1)) (List.range p.ships.length)
  unfold rankL
  rw [List.length_mergeSort]
  rwa [List.length_range] at h

/-- A ship's variable behind a call and a store elsewhere. -/
theorem ship_kept {wr w5 : World} {g j : Nat} {t : Int} {s : Ship} (hg : g < wr.heap.size) (hb : Below (wr.alloc (.cells (shipV s) 38)).heap.size (wr.alloc (.cells (shipV s) 38)) w5) :
    ∀ i, i < 6 → (w5.setCell ⟨g, j, none⟩ (.int .i64 t)).cell? ⟨wr.heap.size, i, none⟩ = (shipV s)[i]? := fun i hi => by
  rw [World.cell?_of_block (w := w5) (Below.heap_setCell w5 ⟨g, j, none⟩ _ wr.heap.size (by simp; omega)), hb.cell (p := ⟨wr.heap.size, i, none⟩) (by simp), cell_of_row _ wr.heap.size i _ _ _ (heap_alloc_new wr _)]

end Go.Proofs.Ytifmdkcpbajdcab
