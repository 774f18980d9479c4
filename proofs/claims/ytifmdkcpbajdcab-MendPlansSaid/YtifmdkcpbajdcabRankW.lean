/- Walks: the ships that wait, in order; a plan from the beginning. -/
import Derived.Test.YtifmdkcpbajdcabNats
import Derived.Test.YtifmdkcpbajdcabCmp
import Derived.Test.YtifmdkcpbajdcabShelf
namespace Go.Proofs.Ytifmdkcpbajdcab
open Go.RowKit Go.Proofs Plain Go.Sort Go.Shelf Go.Lib

theorem ints_own {w : World} {base c : Nat} {A : Option Addr} {l : List Int} (h : OwnI w base (.slice A l.length c) l) (hl : 0 < l.length) : ∃ g, A = some ⟨g, 0, none⟩ ∧ base ≤ g ∧ g < w.heap.size := by
  rcases h.2 with ⟨hv, hn⟩ | ⟨g, cap, cur, hv, h1, h2, _⟩
  · omega
  · injection hv with e1 _ e2
    exact ⟨g, e1, h1, (Array.getElem?_eq_some_iff.1 h2).1⟩

theorem sort_below {α : Type} [Inhabited α] (enc : α → Value) {B : Nat} {a w : World} {g n : Nat} {d : Array α} {os : Array Obj} (h : Below B a w) (hg : B ≤ g) (hw : B ≤ w.heap.size) : Below B a (sortWorld enc w g 0 n d os) := by
  refine h.trans ⟨rfl, rfl, rfl, by simp [sortWorld, grow, putRow, mapBlock, Sort.ahead], fun k hk => ?_⟩
  have hne : g ≠ k := by omega
  simp only [sortWorld, grow, putRow, mapBlock, Sort.ahead]
  rw [Array.getElem?_append_left (by simp; omega)]
  simp [Array.getElem?_modify, hne]

def encF (n : Nat) (i : Fin n) : Value := .int .i64 (i.val : Int)

theorem swoF (p : Port) (h : PGood p) : SWO (ltOf (cfF p)) := by
  have key1 : ∀ x y : Fin p.ships.length, ltOf (cfF p) x y = decide (key (p.ship x.val) < key (p.ship y.val)) := fun x y => by
    unfold ltOf cfF
    rw [Bool.eq_iff_iff, decide_eq_true_eq, decide_eq_true_eq]
    exact cf_lt h x.2 y.2
  exact ⟨fun x => by rw [key1]; simp, fun x y z h1 h2 => by rw [key1] at *; simp at *; omega, fun x y z h1 h2 => by rw [key1] at *; simp at *; omega⟩

theorem totF (p : Port) (h : PGood p) (x y : Fin p.ships.length) (h1 : ltOf (cfF p) x y = false) (h2 : ltOf (cfF p) y x = false) : x = y := by
  unfold ltOf cfF at h1 h2
  rw [decide_eq_false_iff_not] at h1 h2
  rw [cf_lt h x.2 y.2] at h1
  rw [cf_lt h y.2 x.2] at h2
  exact Fin.ext (key_inj h x.2 y.2 (by omega))

set_option maxHeartbeats 1000000 in
theorem sort_ranks (p : Port) (hg : PGood p) (A : Option Addr) (c : Nat) (w0 w : World) (gp : Nat) (hin : InP w0 p A) (hP : PortAt w gp p A c) (hpos : 0 < (waitsTo p p.ships.length).length)
    (g cap : Nat) (hb : Below w0.heap.size w0 w) (hgp : gp < g) (h0 : w0.heap.size ≤ g) (hlt : g < w.heap.size) (hown : OwnI w (gp + 1) (.slice (some ⟨g, 0, none⟩) (natsI (waitsTo p p.ships.length)).length cap) (natsI (waitsTo p p.ships.length))) :
    Calls Try.prog 51 #[.slice (some ⟨g, 0, none⟩) (natsI (waitsTo p p.ships.length)).length cap, .func (.func 52) #[] #[.pointer (some ⟨gp, 0, none⟩)]] w fun e w' =>
      e = .returned (.tuple #[]) ∧ Sl w' 1 (some ⟨g, 0, none⟩) (natsI (waitsTo p p.ships.length)).length ((natsI (rankL p)).map (Value.int .i64)) ∧ Below w0.heap.size w0 w' := by
  have hnz : 0 < p.ships.length := Nat.lt_of_lt_of_le hpos (waits_len p _)
  haveI : Inhabited (Fin p.ships.length) := ⟨⟨0, hnz⟩⟩
  have hlen : (finsTo p).length = (waitsTo p p.ships.length).length := by rw [← fins_val, List.length_map]
  have hsz : (finsTo p).toArray.size = (natsI (waitsTo p p.ships.length)).length := by rw [List.size_toArray, hlen, natsI_len]
  have hsl := Sl.of_own hown
  have hH : Holds (encF p.ships.length) w g 0 (finsTo p).toArray := fun j hj => by
    rw [hsz] at hj
    obtain ⟨b, off, e, hbl, hc⟩ := ints_at hsl (by rw [natsI_len]; exact hpos)
    injection e with e
    injection e with e1 e2
    subst e1; subst e2
    refine ⟨?_, hown.frozenAt _⟩
    rw [hc j hj]
    congr 1
    have hj2 : j < (waitsTo p p.ships.length).length := by rwa [natsI_len] at hj
    rw [natsI_get _ _ hj2]
    unfold encF
    congr 2
    have hj3 : j < (finsTo p).length := by rw [hlen]; exact hj2
    rw [getElem!_pos _ j (by rw [List.size_toArray]; exact hj3)]
    simp only [List.getElem_toArray]
    rw [List.getD_eq_getElem?_getD, ← fins_val, List.getElem?_map, List.getElem?_eq_getElem hj3]; rfl
  have eg : ∀ args W, (callFunc 52 args).run Try.prog W = .ok (.enter 52 args) W := enters_of Try.func52 (by kernel_rfl) rfl
  have hcmp : CmpLays1 Try.prog 52 #[.pointer (some ⟨gp, 0, none⟩)] (encF p.ships.length) (cfF p) g 0 (finsTo p).toArray.size w := fun m os dk hdk x y => by
    have hbw := sort_below (encF p.ships.length) (g := g) (n := m) (d := dk) (os := os) hb h0 hb.size
    have hP2 : PortAt (sortWorld (encF p.ships.length) w g 0 m dk os) gp p A c :=
      hP.below (n := gp + 1) (sort_below (encF p.ships.length) (g := g) (n := m) (d := dk) (os := os) (Below.refl (gp + 1) w) (by omega) (by omega)) (by omega)
    exact byRank_any p A c gp x.val y.val _ hP2 (Sl.below hin hbw) x.2 y.2
  have hS := Try.slices_SortFunc_total (encF p.ships.length) (fun _ => rfl) (cfF p) (swoF p hg) 52 #[.pointer (some ⟨gp, 0, none⟩)] g 0 cap (finsTo p).toArray w eg hcmp hH hlt (by rw [List.size_toArray, hlen]; have := waits_len p p.ships.length; have := hg.len; omega) (totF p hg)
  rw [hsz] at hS
  refine hS.mono fun e w' hw => ?_
  obtain ⟨rfl, n, os, rfl⟩ := hw
  refine ⟨rfl, ?_, sort_below _ hb h0 hb.size⟩
  have hms : ((finsTo p).toArray.toList.mergeSort fun x y => !(ltOf (cfF p)) y x).map Fin.val = rankL p := fins_sorted hg _ (fun i j => rfl)
  generalize hd : ((finsTo p).toArray.toList.mergeSort fun x y => !(ltOf (cfF p)) y x) = D at *
  have hDl : D.length = (finsTo p).length := by rw [← hd, List.length_mergeSort]
  have hrl : (rankL p).length = (waitsTo p p.ships.length).length := by rw [← hms, List.length_map, hDl, hlen]
  have hh := holds_sortWorld (encF p.ships.length) w g 0 n (finsTo p).toArray D.toArray os hlt hH (by rw [List.size_toArray, List.size_toArray, hDl])
  refine ⟨by rw [List.length_map, natsI_len, natsI_len, hrl]; simp, fun hn => ⟨g, 0, rfl, fun j hj => ?_⟩⟩
  have hj2 : j < D.length := by rw [hDl, hlen]; rw [natsI_len] at hj; omega
  rw [(hh j (by rw [List.size_toArray]; exact hj2)).1, getElem!_pos _ j (by rw [List.size_toArray]; exact hj2), List.getElem?_map]
  simp only [natsI, List.getElem?_map, List.getElem_toArray]
  rw [← hms, List.getElem?_map, List.getElem?_eq_getElem hj2]
  rfl
end Go.Proofs.Ytifmdkcpbajdcab
