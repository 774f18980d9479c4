/- Walks: an order that a ship comes, whatever it says. -/
import Derived.Test.YtifmdkcpbajdcabTellC
namespace Go.Proofs.Ytifmdkcpbajdcab
open Go.RowKit Go.Proofs Plain

set_option maxRecDepth 100000 in
set_option maxHeartbeats 8000000 in
theorem tell_come_any (p : Port) (A : Option Addr) (c g base : Nat) (oa ob oc : Int) (w : World) (hP : PortAt w g p A c) (hown : OwnK w base (.slice A p.ships.length c) p.ships) (hog : (Value.slice A p.ships.length c).ownBlock ≠ some g) (hgb : base ≤ g) (hbs : base ≤ w.heap.size)
    (hf : Plain.Fair p) :
    Calls Try.prog 47 #[.pointer (some ⟨g, 0, none⟩), .agg (orderA ⟨1, oa, ob, oc⟩)] w (RetTell g base (tell1 p ⟨1, oa, ob, oc⟩) w) := by
  have HT := Lib.hid (show tell1 p ⟨1, oa, ob, oc⟩ = if (1 ≤ oa ∧ oa ≤ 16) ∧ (1 ≤ ob ∧ ob ≤ 300) ∧ (0 ≤ oc ∧ oc ≤ 3) then
      (if 14 ≤ p.ships.length ∨ 1048576 ≤ p.next then (p, 0, 5) else (p.come ⟨1, oa, ob, oc, 0, p.next⟩, (p.ships.length : Int), 0)) else (p, 0, 2) from rfl)
  have hx := hf.next
  have hP2 := hP.alloc (.cells (orderA ⟨1, oa, ob, oc⟩) 45)
  have ho2 : OwnK (w.alloc (.cells (orderA ⟨1, oa, ob, oc⟩) 45)) base (.slice A p.ships.length c) p.ships := World.ownsRow.alloc hown _
  have hb2 : Below base w (w.alloc (.cells (orderA ⟨1, oa, ob, oc⟩) 45)) := ((Below.refl _ _).alloc (Nat.le_refl _) _).mono hbs
  have q1 := hP.ships
  have q15 := hP.next
  have hglt := hP.lt
  by_cases ha : inB oa 1 16 = true
  · by_cases hb : inB ob 1 300 = true
    · by_cases hc : inB oc 0 3 = true
      · have ha' := (inB_iff _ _ _).1 ha
        have hb' := (inB_iff _ _ _).1 hb
        have hc' := (inB_iff _ _ _).1 hc
        by_cases hl : 14 ≤ p.ships.length
        · have HR := Lib.hid (show tell1 p ⟨1, oa, ob, oc⟩ = (p, 0, 5) by rw [HT.out, if_pos ⟨ha', hb', hc'⟩, if_pos (.inl hl)])
          have HA := Lib.hid ha
          have HB := Lib.hid hb
          have HC := Lib.hid hc
          have d1 : decide (14 ≤ (p.ships.length : Int)) = true := by simp; omega
          clear HT ha hb hc ha' hb' hc' hP hown
          simp only [orderA] at *
          go_enter Try.func47, Try.ntmps47
          go_wp2_with (first
            | (go_at_call 27; (with_reducible refine (psmall_is _ HA.out).mono ?_); rintro e w' ⟨rfl, rfl⟩)
            | (go_at_call 27; (with_reducible refine (psmall_is _ HB.out).mono ?_); rintro e w' ⟨rfl, rfl⟩)
            | (go_at_call 27; (with_reducible refine (psmall_is _ HC.out).mono ?_); rintro e w' ⟨rfl, rfl⟩))
          go_ret2
          rw [HR.out]
          exact ⟨A, c, rfl, hP2, ho2, hog, hb2⟩
        · by_cases hn : 1048576 ≤ p.next
          · have HR := Lib.hid (show tell1 p ⟨1, oa, ob, oc⟩ = (p, 0, 5) by rw [HT.out, if_pos ⟨ha', hb', hc'⟩, if_pos (.inr hn)])
            have HA := Lib.hid ha
            have HB := Lib.hid hb
            have HC := Lib.hid hc
            have d1 : decide (14 ≤ (p.ships.length : Int)) = false := by simp; omega
            have d2 : decide (1048576 ≤ p.next) = true := by simpa using hn
            clear HT ha hb hc ha' hb' hc' hP hown
            simp only [orderA] at *
            go_enter Try.func47, Try.ntmps47
            go_wp2_with (first
              | (go_at_call 27; (with_reducible refine (psmall_is _ HA.out).mono ?_); rintro e w' ⟨rfl, rfl⟩)
              | (go_at_call 27; (with_reducible refine (psmall_is _ HB.out).mono ?_); rintro e w' ⟨rfl, rfl⟩)
              | (go_at_call 27; (with_reducible refine (psmall_is _ HC.out).mono ?_); rintro e w' ⟨rfl, rfl⟩))
            go_ret2
            rw [HR.out]
            exact ⟨A, c, rfl, hP2, ho2, hog, hb2⟩
          · rw [HT.out, if_pos ⟨ha', hb', hc'⟩, if_neg (by omega)]
            exact tell_come p A c g base oa ob oc w hP hown hog hgb hbs ⟨hx.1, by omega⟩ (by omega) ha hb hc
      · have hc : inB oc 0 3 = false := by simpa using hc
        have hc' : ¬ (0 ≤ oc ∧ oc ≤ 3) := by rw [← inB_iff, hc]; simp
        have HR := Lib.hid (show tell1 p ⟨1, oa, ob, oc⟩ = (p, 0, 2) by rw [HT.out, if_neg (fun h => hc' h.2.2)])
        have HA := Lib.hid ha
        have HB := Lib.hid hb
        have HC := Lib.hid hc
        clear HT ha hb hc hc' hP hown
        simp only [orderA] at *
        go_enter Try.func47, Try.ntmps47
        go_wp2_with (first
          | (go_at_call 27; (with_reducible refine (psmall_is _ HA.out).mono ?_); rintro e w' ⟨rfl, rfl⟩)
          | (go_at_call 27; (with_reducible refine (psmall_is _ HB.out).mono ?_); rintro e w' ⟨rfl, rfl⟩)
          | (go_at_call 27; (with_reducible refine (psmall_is _ HC.out).mono ?_); rintro e w' ⟨rfl, rfl⟩))
        go_ret2
        rw [HR.out]
        exact ⟨A, c, rfl, hP2, ho2, hog, hb2⟩
    · have hb : inB ob 1 300 = false := by simpa using hb
      have hb' : ¬ (1 ≤ ob ∧ ob ≤ 300) := by rw [← inB_iff, hb]; simp
      have HR := Lib.hid (show tell1 p ⟨1, oa, ob, oc⟩ = (p, 0, 2) by rw [HT.out, if_neg (fun h => hb' h.2.1)])
      have HA := Lib.hid ha
      have HB := Lib.hid hb
      clear HT ha hb hb' hP hown
      simp only [orderA] at *
      go_enter Try.func47, Try.ntmps47
      go_wp2_with (first
        | (go_at_call 27; (with_reducible refine (psmall_is _ HA.out).mono ?_); rintro e w' ⟨rfl, rfl⟩)
        | (go_at_call 27; (with_reducible refine (psmall_is _ HB.out).mono ?_); rintro e w' ⟨rfl, rfl⟩))
      go_ret2
      rw [HR.out]
      exact ⟨A, c, rfl, hP2, ho2, hog, hb2⟩
  · have ha : inB oa 1 16 = false := by simpa using ha
    have ha' : ¬ (1 ≤ oa ∧ oa ≤ 16) := by rw [← inB_iff, ha]; simp
    have HR := Lib.hid (show tell1 p ⟨1, oa, ob, oc⟩ = (p, 0, 2) by rw [HT.out, if_neg (fun h => ha' h.1)])
    have HA := Lib.hid ha
    clear HT ha ha' hP hown
    simp only [orderA] at *
    go_enter Try.func47, Try.ntmps47
    go_wp2_with (go_at_call 27; (with_reducible refine (psmall_is _ HA.out).mono ?_); rintro e w' ⟨rfl, rfl⟩)
    go_ret2
    rw [HR.out]
    exact ⟨A, c, rfl, hP2, ho2, hog, hb2⟩
end Go.Proofs.Ytifmdkcpbajdcab
