/- Walks: all that the document's desk is told. -/
import Derived.Test.YtifmdkcpbajdcabGreatDoorRDeskQ
import Derived.Test.YtifmdkcpbajdcabGreatDoorRDeskH
import Derived.Test.YtifmdkcpbajdcabGreatDoorRDeskI
import Derived.Test.YtifmdkcpbajdcabGreatDoorDeskOp
set_option linter.unusedVariables false
set_option linter.unusedSimpArgs false
namespace Go.Proofs.YtifmdkcpbajdcabGreatDoor
open Go.RowKit Go.Proofs Plain
open Go.Lib renaming hid -> hd_
theorem rtellD_any (Bt : Nat) (G : Nat -> Prop) (g : Nat) (d : Desk) (s : ByteArray) (w : World) (hD : RDeskAt w G g d) (hk : DOk d) (hST : SpaceTab Bt w) (hBt : Bt <= w.heap.size) (hgB : Bt <= g) (hs : s.size <= maxLen) (ha : d.acts < 250) :
    Calls Tryz.prog 19 #[.pointer (some ⟨g, 0, none⟩), .string s] w
      (RetRD G g (.agg #[.int .i64 (tellD d s.data.toList).2.1, .int .i64 (tellD d s.data.toList).2.2]) (tellD d s.data.toList).1 w) := by
  obtain ⟨p, was, ac⟩ := d
  have hac : ac < 250 := ha
  have hset := hk.now
  have hna : ¬ 250 <= (⟨p, was, ac⟩ : Desk).acts := by show ¬ 250 <= ac; omega
  dsimp only at hset
  have hg := hset.good
  cases hp : parseL s.data.toList with
  | none =>
    have e : tellD ⟨p, was, ac⟩ s.data.toList = (⟨p, was, ac + 1⟩, 1, 0) := by unfold tellD; rw [if_neg hna, hp]
    rw [e]; exact rtell_no Bt G g p was ac s w hD hST hBt hgB hs hac hp
  | some o =>
    have e : tellD ⟨p, was, ac⟩ s.data.toList = (⟨(actL p was o).1, (actL p was o).2.1, ac + 1⟩, (actL p was o).2.2) := by unfold tellD; rw [if_neg hna, hp]
    rw [e]
    have hgo := parse_good hp
    obtain ⟨g1, g2, g3, _⟩ := (goodO_iff _).1 hgo
    obtain ⟨kd, oa, ob, oc⟩ := o
    dsimp only at g1 g2 g3
    have hoa := lim64 g3
    unfold actL
    dsimp only
    by_cases k9 : kd = 9
    · subst k9
      rw [if_pos rfl]
      by_cases hr : oa < 1 \/ 300 - p.now <= oa
      · rw [if_pos hr]; exact rtell_wait0 Bt G g p was ac s w hD hST hBt hgB hs hac hp hg hoa hr
      · rw [if_neg hr]; exact rtell_wait1 Bt G g p was ac s w hD hST hBt hgB hs hac hp hset (by omega) (by omega)
    rw [if_neg k9]
    by_cases k10 : kd = 10
    · subst k10
      rw [if_pos rfl]
      cases was with
      | none => exact rtell_begin1 Bt G g p none ac s w hD hST hBt hgB hs hac hp rfl hg
      | some q => exact rtell_begin0 Bt G g p (some q) ac s w hD hST hBt hgB hs hac hp q rfl
    rw [if_neg k10]
    by_cases k11 : kd = 11
    · subst k11
      rw [if_pos rfl]
      cases was with
      | none => exact rtell_commit0 Bt G g p none ac s w hD hST hBt hgB hs hac hp rfl
      | some q => exact rtell_commit1 Bt G g p (some q) ac s w hD hST hBt hgB hs hac hp q rfl
    rw [if_neg k11]
    by_cases k12 : kd = 12
    · subst k12
      rw [if_pos rfl]
      cases was with
      | none => exact rtell_undo0 Bt G g p none ac s w hD hST hBt hgB hs hac hp rfl
      | some q => exact rtell_undo1 Bt G g p (some q) ac s w hD hST hBt hgB hs hac hp q rfl
    rw [if_neg k12]
    by_cases k13 : kd = 13
    · subst k13
      rw [if_pos rfl]
      by_cases hr : (tellL p ⟨1, oa, ob, oc⟩).2.2 ≠ 0
      · rw [if_pos hr]
        exact rtell_guess0 Bt G g p was ac s w hD hST hBt hgB hs hac hp hg (hd_ rfl) hr
      · rw [if_neg hr]
        have hr0 : (tellL p ⟨1, oa, ob, oc⟩).2.2 = 0 := by simpa using hr
        have ht := (told (q := (tellL p ⟨1, oa, ob, oc⟩).1) (n := (tellL p ⟨1, oa, ob, oc⟩).2.1) hg (.inl rfl) (by rw [<- hr0])).2.2.1 rfl
        exact rtell_guess1 Bt G g p was ac s w hD hST hBt hgB hs hac hp hg (hd_ rfl) (hd_ hr0) (hd_ rfl) (hd_ (by obtain ⟨t1, t2⟩ := ht; omega))
    rw [if_neg k13]
    by_cases k14 : kd = 14
    · subst k14
      rw [if_pos rfl]
      unfold askL
      by_cases hr : oa < 0 \/ (p.ships.length : Int) <= oa
      · rw [if_pos hr]; exact rtell_ask0 Bt G g p was ac s w hD hST hBt hgB hs hac hp hg hr
      · rw [if_neg hr]; exact rtell_ask1 Bt G g p was ac s w hD hST hBt hgB hs hac hp hg (by omega) (hd_ rfl)
    rw [if_neg k14]
    by_cases hr : (tellL p ⟨kd, oa, ob, oc⟩).2.2 ≠ 0
    · rw [if_pos hr]
      exact rtell_refuse Bt G g p was ac s w hD hST hBt hgB hs hac hp g1 (by omega) hg (hd_ rfl) hr
    · rw [if_neg hr]
      exact rtell_order Bt G g p was ac s w hD hST hBt hgB hs hac hp g1 (by omega) hg (hd_ rfl) (hd_ (by simpa using hr))
end Go.Proofs.YtifmdkcpbajdcabGreatDoor
